import Derived.Test.YtlfcdmibknmjeaaGreatDoorYEvA2
import Derived.Test.YtlfcdmibknmjeaaGreatDoorProg
import Derived.Test.YtlfcdmibknmjeaaGreatDoorYSrA
namespace Go.Proofs.YtlfcdmibknmjeaaGreatDoor.E
open Go Go.Proofs.YtlfcdmibknmjeaaGreatDoor.Ev
set_option linter.unusedVariables false
set_option maxRecDepth 100000
set_option maxHeartbeats 2000000
noncomputable section
noncomputable abbrev P0:Program:=Tryz.prog
theorem hm0:P0.follows .mixedOrders=true:=by kernel_rfl
abbrev T216:Ty:=(.arr 0 .opq)
abbrev T140:Ty:=(.arr 2 .bool)
abbrev internal_runtime_maps_unhashableTypeError:Ty:=(.pair .opq .unit)
abbrev errors_errorString:Ty:=(.pair .str .unit)
abbrev T183:Ty:=(.arr 10 (.int .u32))
abbrev runtime_errorAddressString:Ty:=(.pair .str (.pair (.int .u64) .unit))
abbrev internal_sync_Mutex:Ty:=(.pair (.int .i32) (.pair (.int .u32) .unit))
abbrev api_Int:Ty:=(.pair .bool (.pair (.list (.int .u32)) .unit))
abbrev runtime_TypeAssertionError:Ty:=(.pair .opq (.pair .opq (.pair .opq (.pair .str .unit))))
abbrev ref03_Got:Ty:=(.pair (.list (.int .u32)) (.pair (.list (.int .u32)) (.pair .bool .unit)))
abbrev runtime_boundsError:Ty:=(.pair (.int .i64) (.pair (.int .i64) (.pair .bool (.pair (.int .u8) .unit))))
abbrev core_face:Ty:=(.pair (.int .i64) (.pair (.int .i64) (.pair (.int .i64) (.pair (.int .i64) .unit))))
abbrev api_Rat:Ty:=(.pair api_Int (.pair (.list (.int .u32)) .unit))
abbrev simple_face:Ty:=(.pair (.int .i64) (.pair (.int .i64) (.pair (.int .i64) (.pair (.int .i64) (.pair .str .unit)))))
abbrev ref07_Got:Ty:=(.pair api_Rat (.pair (.int .i64) .unit))
abbrev api_Term:Ty:=(.pair (.int .i64) (.pair (.int .i64) (.pair (.int .i64) (.pair (.int .i64) (.pair api_Rat .unit)))))
abbrev ref22_maker:Ty:=(.pair (.list api_Term) .unit)
abbrev internal_abi_Type:Ty:=(.pair (.int .u64) (.pair (.int .u64) (.pair (.int .u32) (.pair (.int .u8) (.pair (.int .u8) (.pair (.int .u8) (.pair (.int .u8) (.pair .opq (.pair .opq (.pair (.int .i32) (.pair (.int .i32) .unit)))))))))))
abbrev simple_maker:Ty:=(.pair (.list api_Term) (.pair .opq .unit))
abbrev ref22_Got:Ty:=(.pair (.list api_Term) (.pair (.int .i64) (.pair (.int .i64) .unit)))
abbrev diff_maker:Ty:=(.pair (.list api_Term) (.pair (.list .bool) (.pair (.list (.int .i64)) (.pair .bool .unit))))
abbrev LI:=List Int
abbrev RA:=Ty.denote api_Rat
abbrev TE:=Ty.denote api_Term
abbrev WH:=Ty.denote api_Int
abbrev CO:=List TE
abbrev MP:=List (Ty.denote simple_face × Int)
def gv0:Ty.denote T183:=[(1:Int),(10:Int),(100:Int),(1000:Int),(10000:Int),(100000:Int),(1000000:Int),(10000000:Int),(100000000:Int),(1000000000:Int)]
def G0:List GV:=[⟨0,T183,gv0⟩]
def T0:Tab:=[⟨1,.opq,0,false,none⟩,⟨2,(.int .i64),0,false,none⟩,⟨3,(.int .i64),0,false,none⟩,⟨4,.bool,0,false,none⟩,⟨5,(.int .u8),0,false,none⟩,⟨6,(.int .u8),0,false,none⟩,⟨7,runtime_boundsError,0,true,none⟩,⟨8,runtime_boundsError,0,true,none⟩,⟨9,.str,0,false,none⟩,⟨10,.str,0,false,none⟩,⟨11,.str,0,false,none⟩,⟨12,(.int .u64),0,false,none⟩,⟨13,runtime_errorAddressString,0,false,none⟩,⟨14,runtime_errorAddressString,0,false,none⟩,⟨15,.opq,0,true,none⟩,⟨16,.opq,0,true,none⟩,⟨17,.opq,0,true,none⟩,⟨18,internal_runtime_maps_unhashableTypeError,0,false,none⟩,⟨19,internal_runtime_maps_unhashableTypeError,0,false,none⟩,⟨20,.opq,0,false,none⟩,⟨21,(.int .i32),0,false,none⟩,⟨22,(.list api_Term),42,false,none⟩,⟨23,(.list api_Term),42,false,none⟩,⟨24,.opq,0,false,none⟩,⟨25,.opq,0,false,none⟩,⟨26,.opq,0,false,none⟩,⟨27,(.int .i64),0,false,none⟩,⟨29,.opq,0,false,none⟩,⟨30,ref22_Got,0,false,none⟩,⟨31,ref22_Got,0,false,none⟩,⟨32,.opq,0,false,none⟩,⟨33,.opq,0,false,none⟩,⟨34,.opq,0,false,none⟩,⟨35,(.list (.int .u32)),111,false,none⟩,⟨36,(.list (.int .u32)),111,false,none⟩,⟨37,api_Int,0,false,none⟩,⟨38,api_Int,0,false,none⟩,⟨39,api_Rat,0,false,none⟩,⟨40,api_Rat,0,false,none⟩,⟨41,api_Term,0,false,none⟩,⟨42,api_Term,0,false,none⟩,⟨43,.opq,0,false,none⟩,⟨44,.opq,0,false,none⟩,⟨45,.opq,0,false,none⟩,⟨46,.opq,0,false,none⟩,⟨47,(.list api_Rat),40,false,none⟩,⟨48,.opq,0,false,none⟩,⟨50,.opq,0,false,none⟩,⟨51,.opq,0,false,none⟩,⟨52,.opq,0,false,none⟩,⟨53,.opq,0,false,none⟩,⟨54,.opq,0,false,none⟩,⟨55,.opq,0,false,none⟩,⟨56,.opq,0,false,none⟩,⟨57,.opq,0,false,none⟩,⟨58,.opq,0,false,none⟩,⟨59,(.list .bool),4,false,none⟩,⟨60,.opq,0,false,none⟩,⟨61,.opq,0,true,none⟩,⟨62,.opq,0,false,(some ⟨143,simple_face,3,(.int .i64)⟩)⟩,⟨63,simple_maker,0,false,none⟩,⟨64,simple_maker,0,false,none⟩,⟨65,(.list (.int .i64)),3,false,none⟩,⟨66,.opq,0,false,none⟩,⟨67,.opq,0,true,none⟩,⟨68,ref22_maker,0,false,none⟩,⟨69,ref22_maker,0,false,none⟩,⟨70,.opq,0,false,none⟩,⟨71,.opq,0,false,none⟩,⟨72,.opq,0,false,none⟩,⟨73,.opq,0,false,none⟩,⟨74,.opq,0,false,none⟩,⟨75,.opq,0,false,none⟩,⟨76,.opq,0,false,none⟩,⟨77,.opq,0,false,none⟩,⟨78,.opq,0,true,none⟩,⟨80,.opq,0,false,none⟩,⟨81,.unit,0,false,none⟩,⟨82,.unit,0,false,none⟩,⟨83,.unit,0,false,none⟩,⟨88,.opq,0,false,none⟩,⟨89,.opq,0,false,none⟩,⟨90,.opq,0,true,none⟩,⟨91,.opq,0,false,none⟩,⟨92,diff_maker,0,false,none⟩,⟨93,diff_maker,0,false,none⟩,⟨94,.opq,0,false,none⟩,⟨95,ref07_Got,0,false,none⟩,⟨96,ref07_Got,0,false,none⟩,⟨97,.opq,0,false,none⟩,⟨98,.opq,0,false,none⟩,⟨99,.opq,0,false,none⟩,⟨100,.opq,0,false,none⟩,⟨101,.opq,0,false,none⟩,⟨102,.opq,0,false,none⟩,⟨103,.opq,0,false,none⟩,⟨104,.opq,0,false,none⟩,⟨105,ref07_Got,0,false,none⟩,⟨106,ref07_Got,0,false,none⟩,⟨107,.opq,0,false,none⟩,⟨108,.opq,0,false,none⟩,⟨109,.opq,0,false,none⟩,⟨110,.opq,0,false,none⟩,⟨111,(.int .u32),0,false,none⟩,⟨112,.opq,0,false,none⟩,⟨113,.opq,0,false,none⟩,⟨114,.opq,0,false,none⟩,⟨115,.opq,0,true,none⟩,⟨116,.opq,0,false,none⟩,⟨117,.opq,0,true,none⟩,⟨118,.opq,0,true,none⟩,⟨119,.unit,0,false,none⟩,⟨122,internal_sync_Mutex,0,true,none⟩,⟨123,internal_sync_Mutex,0,true,none⟩,⟨130,.opq,0,false,none⟩,⟨131,.opq,0,false,none⟩,⟨132,.opq,0,false,none⟩,⟨133,.opq,0,false,none⟩,⟨134,.opq,0,false,none⟩,⟨136,.opq,0,false,none⟩,⟨138,.opq,0,false,none⟩,⟨139,(.list (.int .i64)),2,false,none⟩,⟨140,T140,0,true,none⟩,⟨141,.opq,0,false,none⟩,⟨142,simple_face,0,true,none⟩,⟨143,simple_face,0,true,none⟩,⟨144,.opq,0,false,none⟩,⟨145,.opq,0,false,none⟩,⟨146,ref03_Got,0,false,none⟩,⟨147,ref03_Got,0,false,none⟩,⟨148,.opq,0,false,none⟩,⟨149,.opq,0,false,none⟩,⟨150,.opq,0,false,none⟩,⟨151,(.int .u64),0,false,none⟩,⟨152,.opq,0,false,none⟩,⟨153,.opq,0,false,none⟩,⟨154,.opq,0,false,none⟩,⟨155,.opq,0,false,none⟩,⟨156,.opq,0,false,none⟩,⟨157,.opq,0,false,none⟩,⟨159,.opq,0,false,none⟩,⟨160,.opq,0,false,none⟩,⟨161,.opq,0,false,none⟩,⟨162,core_face,0,true,none⟩,⟨163,core_face,0,true,none⟩,⟨165,.opq,0,false,none⟩,⟨166,.opq,0,false,none⟩,⟨167,.opq,0,false,none⟩,⟨168,.opq,0,false,none⟩,⟨169,.opq,0,false,none⟩,⟨170,.opq,0,false,none⟩,⟨171,.opq,0,false,none⟩,⟨172,(.int .u64),0,false,none⟩,⟨173,.opq,0,false,none⟩,⟨175,.opq,0,false,none⟩,⟨176,.opq,0,false,none⟩,⟨177,.opq,0,false,none⟩,⟨178,.opq,0,true,none⟩,⟨179,.opq,0,false,none⟩,⟨180,(.list (.int .u8)),5,false,none⟩,⟨182,.opq,0,false,none⟩,⟨183,T183,0,true,none⟩,⟨184,.opq,0,false,none⟩,⟨185,.opq,0,false,none⟩,⟨186,.opq,0,false,none⟩,⟨187,.opq,0,false,none⟩,⟨189,.opq,0,false,none⟩,⟨190,.opq,0,false,none⟩,⟨192,.opq,0,false,none⟩,⟨193,.opq,0,false,none⟩,⟨194,.opq,0,true,none⟩,⟨195,.opq,0,false,none⟩,⟨196,.opq,0,true,none⟩,⟨197,.opq,0,false,none⟩,⟨198,.opq,0,true,none⟩,⟨199,.opq,0,false,none⟩,⟨200,.opq,0,false,none⟩,⟨201,.opq,0,false,none⟩,⟨202,.opq,0,false,none⟩,⟨203,.opq,0,true,none⟩,⟨204,.opq,0,false,none⟩,⟨205,.opq,0,true,none⟩,⟨206,.opq,0,false,none⟩,⟨207,.opq,0,false,none⟩,⟨208,.opq,0,false,none⟩,⟨209,.opq,0,false,none⟩,⟨210,.opq,0,false,none⟩,⟨211,.opq,0,false,none⟩,⟨212,.opq,0,true,none⟩,⟨213,.opq,0,false,none⟩,⟨214,runtime_TypeAssertionError,0,false,none⟩,⟨215,runtime_TypeAssertionError,0,false,none⟩,⟨216,T216,0,false,none⟩,⟨219,.opq,0,false,none⟩,⟨220,(.int .u8),0,false,none⟩,⟨221,(.int .u8),0,false,none⟩,⟨222,.opq,0,false,none⟩,⟨223,.opq,0,true,none⟩,⟨224,(.int .i32),0,false,none⟩,⟨225,(.int .i32),0,false,none⟩,⟨226,internal_abi_Type,0,false,none⟩,⟨227,internal_abi_Type,0,false,none⟩,⟨228,errors_errorString,0,true,none⟩,⟨229,errors_errorString,0,true,none⟩]
theorem hT0:tabChk P0 T0=true:=by kernel_rfl
def wd.rw:RowFn P0 166:=⟨(.int .u8),List.reverse,fun _=>List.length_reverse,revHolds⟩
def wd.fn:Kn P0 G0:=⟨166,1,1,[⟨false,0,.own 0 false 0 (.int .u8)⟩],0,[],fun _=>none,⟨by kernel_rfl,fun _ _ _ _ _ _ _ _ _ h=>by cases h⟩,some wd.rw⟩
def xc.hd:Sig:=[⟨false,0,(.imm api_Rat)⟩]
def xc.os:List Sig:=[[⟨false,0,(.imm .bool)⟩]]
def xc.C:List CutAt:=[]
def xc.env:List (Kn P0 G0):=[]
theorem xc.d:distN (loopIds (Tryz.f22.body.getD .skip) 0)=true:=by kernel_rfl
def xc.f (a0:RA):Option Bool:=(bif (decide ((((List.length a0.1.2.1):Nat):Int) > (200:Int))) then (some true) else (some (decide ((((List.length a0.2.1):Nat):Int) > (200:Int)))))
theorem xc.e (x:Tup (sigTys xc.hd)):fnK T0 xc.env [] xc.C Tryz.f22 1 28 xc.hd xc.os x=xc.f x:=by kernel_rfl
def xc.fn:Kn P0 G0:=⟨22,1,28,xc.hd,1,xc.os,fun x=>xc.f x,contract (T:=T0) (fn:=Tryz.f22) hm0 hT0 (by kernel_rfl) (by kernel_rfl) (L:=[]) (C:=xc.C) (by kernel_rfl) (by decide) rfl (by kernel_rfl) (loops_fn xc.d trivial) (xc.e),none⟩
def zi.hd:Sig:=[⟨false,0,(.imm (.list api_Term))⟩]
def zi.os:List Sig:=[[⟨false,0,(.imm .bool)⟩]]
def zi.h0:Sig:=[⟨false,0,(.imm (.list api_Term))⟩,⟨false,3,(.imm (.int .i64))⟩,⟨false,4,(.imm (.int .i64))⟩]
def zi.o0:Outs:=[((.exit 0),[⟨false,3,(.imm (.int .i64))⟩]),(.ret,[⟨false,2,(.imm .bool)⟩])]
def zi.C:List CutAt:=[]
def zi.env (k:Nat):List (Kn P0 G0):=[xc.fn]
theorem zi.d:distN (loopIds (Tryz.f8.body.getD .skip) 0)=true:=by kernel_rfl
def zi.b0 (c0:CO→Int→Int→Option (Int ⊕ Bool)) (x0:CO) (x1:Int) (x2:Int):Option (Int ⊕ Bool):=(bif (decide (x2 < (((List.length x0):Nat):Int))) then (bif (decide (((0:Int) ≤ x2)∧(x2 < (((List.length x0):Nat):Int)))) then (Option.bind (xc.f (rdL (Ty.zero api_Term) x0 x2).2.2.2.2.1) fun y5=>(bif y5 then (some (Sum.inr true)) else (bif (decide (((0:Int) ≤ x2)∧(x2 < (((List.length x0):Nat):Int)))) then (bif (decide (((0:Int) ≤ x2)∧(x2 < (((List.length x0):Nat):Int)))) then (c0 x0 (IntKind.wrap .i64 (x1 + (IntKind.wrap .i64 ((((List.length (rdL (Ty.zero api_Term) x0 x2).2.2.2.2.1.1.2.1):Nat):Int) + (((List.length (rdL (Ty.zero api_Term) x0 x2).2.2.2.2.1.2.1):Nat):Int))))) (IntKind.wrap .i64 (x2 + (1:Int)))) else none) else none))) else none) else (some (Sum.inl x1)))
def zi.l0:Nat→CO→Int→Int→Option (Int ⊕ Bool)
 | 0,_,_,_=>none
 | k + 1,x0,x1,x2=>zi.b0 (zi.l0 k) x0 x1 x2
noncomputable def zi.V0 x0 x1 x2:=lim fun k=>zi.l0 k x0 x1 x2
theorem zi.v0 x0 x1 x2 {y} (h:zi.b0 zi.V0 x0 x1 x2=some y):zi.V0 x0 x1 x2=some y:=Le.v (.succ (by unfold zi.l0 zi.b0;repeat (first | with_reducible first | exact Le.const | refine Le.bind ?_ fun _=>?_ | refine Le.cond ?_ ?_ | refine Le.elim (fun _=>?_) fun _=>?_ | exact Le.of rfl))) h
def zi.L0 (k:Nat):LFn:=⟨zi.h0,zi.o0,fun x=>zi.l0 k x.1 x.2.1 x.2.2⟩
theorem zi.r0 (k:Nat) (x:Tup (sigTys zi.h0)):roundK T0 (zi.env k) 40 80 [] zi.C (loopOf Tryz.f8 0) 0 zi.h0 zi.o0 (zi.L0 k).f x=(zi.L0 (k + 1)).f x:=by kernel_rfl
theorem zi.s0 (k:Nat):LoopSound P0 G0 40 80 (sigPins zi.hd) (zi.L0 k) (loopOf Tryz.f8 0):=loop_rounds (T:=T0) hm0 hT0 (env:=fun k=>(zi.env k)) (nh:=80) (pn:=sigPins zi.hd) (L:=fun k=>[]) (C:=zi.C) (by kernel_rfl) (hd:=zi.h0) (os:=zi.o0) (by kernel_rfl) (by kernel_rfl) (by kernel_rfl) (g:=fun k=>(zi.L0 k).f) (fun k=>loops_in zi.d trivial) (fun _=>rfl) (fun k x=>zi.r0 k x) k
def zi.b (c0:CO→Int→Int→Option (Int ⊕ Bool)) (a0:CO):Option Bool:=(bif (decide ((((List.length a0):Nat):Int) > (400:Int))) then (some true) else (Option.bind (c0 a0 ((0:Int),(0:Int)).1 ((0:Int),(0:Int)).2) fun y2=>(Sum.elim (fun y3=>(some (decide (y3 > (2000:Int))))) (fun y3=>(some y3)) y2)))
def zi.f (k:Nat) a0:=zi.b (zi.l0 k) a0
noncomputable def zi.V a0:=lim fun k=>zi.f k a0
theorem zi.v a0 {y} (h:zi.b zi.V0 a0=some y):zi.V a0=some y:=Le.v (by unfold zi.f zi.b;repeat (first | with_reducible first | exact Le.const | refine Le.bind ?_ fun _=>?_ | refine Le.cond ?_ ?_ | refine Le.elim (fun _=>?_) fun _=>?_ | exact Le.of rfl)) h
theorem zi.e (k:Nat) (x:Tup (sigTys zi.hd)):fnK T0 (zi.env k) [⟨0,zi.L0 k⟩] zi.C Tryz.f8 1 80 zi.hd zi.os x=zi.f k x:=by kernel_rfl
def zi.fn (k:Nat):Kn P0 G0:=⟨8,1,80,zi.hd,1,zi.os,fun x=>zi.f k x,contract (T:=T0) (fn:=Tryz.f8) hm0 hT0 (by kernel_rfl) (by kernel_rfl) (L:=[⟨0,zi.L0 k⟩]) (C:=zi.C) (by kernel_rfl) (by decide) rfl (by kernel_rfl) (loops_fn zi.d ⟨zi.s0 k,trivial⟩) (zi.e k),none⟩
def zj.hd:Sig:=[⟨false,0,(.imm (.list (.int .u32)))⟩]
def zj.os:List Sig:=[[⟨false,0,(.own 18 false 111 (.int .u32))⟩]]
def zj.h0:Sig:=[⟨false,0,(.imm (.list (.int .u32)))⟩,⟨false,3,(.imm (.int .i64))⟩]
def zj.o0:Outs:=[((.exit 0),[⟨false,0,(.imm (.list (.int .u32)))⟩,⟨false,3,(.imm (.int .i64))⟩])]
def zj.C:List CutAt:=[]
def zj.env (k:Nat):List (Kn P0 G0):=[]
theorem zj.d:distN (loopIds (Tryz.f103.body.getD .skip) 0)=true:=by kernel_rfl
def zj.b0 (c0:LI→Int→Option (LI × Int)) (x0:LI) (x1:Int):Option (LI × Int):=(bif (decide (x1 > (0:Int))) then (bif (decide (((0:Int) ≤ (IntKind.wrap .i64 (x1 - (1:Int))))∧((IntKind.wrap .i64 (x1 - (1:Int))) < (((List.length x0):Nat):Int)))) then (bif ((rdL (0:Int) x0 (IntKind.wrap .i64 (x1 - (1:Int)))) == (0:Int)) then (c0 x0 (IntKind.wrap .i64 (x1 - (1:Int)))) else (some (x0,x1))) else none) else (some (x0,x1)))
def zj.l0:Nat→LI→Int→Option (LI × Int)
 | 0,_,_=>none
 | k + 1,x0,x1=>zj.b0 (zj.l0 k) x0 x1
noncomputable def zj.V0 x0 x1:=lim fun k=>zj.l0 k x0 x1
theorem zj.v0 x0 x1 {y} (h:zj.b0 zj.V0 x0 x1=some y):zj.V0 x0 x1=some y:=Le.v (.succ (by unfold zj.l0 zj.b0;repeat (first | with_reducible first | exact Le.const | refine Le.bind ?_ fun _=>?_ | refine Le.cond ?_ ?_ | refine Le.elim (fun _=>?_) fun _=>?_ | exact Le.of rfl))) h
def zj.L0 (k:Nat):LFn:=⟨zj.h0,zj.o0,fun x=>zj.l0 k x.1 x.2⟩
theorem zj.r0 (k:Nat) (x:Tup (sigTys zj.h0)):roundK T0 (zj.env k) 23 46 [] zj.C (loopOf Tryz.f103 0) 0 zj.h0 zj.o0 (zj.L0 k).f x=(zj.L0 (k + 1)).f x:=by kernel_rfl
theorem zj.s0 (k:Nat):LoopSound P0 G0 23 46 (sigPins zj.hd) (zj.L0 k) (loopOf Tryz.f103 0):=loop_rounds (T:=T0) hm0 hT0 (env:=fun k=>(zj.env k)) (nh:=46) (pn:=sigPins zj.hd) (L:=fun k=>[]) (C:=zj.C) (by kernel_rfl) (hd:=zj.h0) (os:=zj.o0) (by kernel_rfl) (by kernel_rfl) (by kernel_rfl) (g:=fun k=>(zj.L0 k).f) (fun k=>loops_in zj.d trivial) (fun _=>rfl) (fun k x=>zj.r0 k x) k
def zj.b (c0:LI→Int→Option (LI × Int)) (a0:LI):Option LI:=(Option.bind (c0 a0 (((List.length a0):Nat):Int)) fun y2=>(bif (decide (((0:Int) ≤ y2.2)∧(y2.2 ≤ (((List.length y2.1):Nat):Int)))) then (bif (decide (((List.length ([]:LI)) + (List.length (List.take (Int.toNat y2.2) y2.1))) ≤ 68719476736)) then (some (([]:LI) ++ (List.take (Int.toNat y2.2) y2.1))) else none) else none))
def zj.f (k:Nat) a0:=zj.b (zj.l0 k) a0
noncomputable def zj.V a0:=lim fun k=>zj.f k a0
theorem zj.v a0 {y} (h:zj.b zj.V0 a0=some y):zj.V a0=some y:=Le.v (by unfold zj.f zj.b;repeat (first | with_reducible first | exact Le.const | refine Le.bind ?_ fun _=>?_ | refine Le.cond ?_ ?_ | refine Le.elim (fun _=>?_) fun _=>?_ | exact Le.of rfl)) h
theorem zj.e (k:Nat) (x:Tup (sigTys zj.hd)):fnK T0 (zj.env k) [⟨0,zj.L0 k⟩] zj.C Tryz.f103 1 46 zj.hd zj.os x=zj.f k x:=by kernel_rfl
def zj.fn (k:Nat):Kn P0 G0:=⟨103,1,46,zj.hd,1,zj.os,fun x=>zj.f k x,contract (T:=T0) (fn:=Tryz.f103) hm0 hT0 (by kernel_rfl) (by kernel_rfl) (L:=[⟨0,zj.L0 k⟩]) (C:=zj.C) (by kernel_rfl) (by decide) rfl (by kernel_rfl) (loops_fn zj.d ⟨zj.s0 k,trivial⟩) (zj.e k),none⟩
def xv.hd:Sig:=[⟨false,0,(.imm (.int .u64))⟩]
def xv.os:List Sig:=[[⟨false,0,(.own 9 false 111 (.int .u32))⟩]]
def xv.C:List CutAt:=[]
def xv.env (k:Nat):List (Kn P0 G0):=[zj.fn k]
theorem xv.d:distN (loopIds (Tryz.f131.body.getD .skip) 0)=true:=by kernel_rfl
def xv.b (c0:LI→Option LI) (a0:Int):Option LI:=(Option.bind (c0 ((IntKind.wrap .u32 a0) :: ((IntKind.wrap .u32 (shrI .u64 a0 (32:Int))) :: ([]:LI)))) fun y2=>(some y2))
def xv.f (k:Nat) a0:=xv.b (zj.f k) a0
noncomputable def xv.V a0:=lim fun k=>xv.f k a0
theorem xv.v a0 {y} (h:xv.b zj.V a0=some y):xv.V a0=some y:=Le.v (by unfold xv.f xv.b;repeat (first | with_reducible first | exact Le.const | refine Le.bind ?_ fun _=>?_ | refine Le.cond ?_ ?_ | refine Le.elim (fun _=>?_) fun _=>?_ | exact Le.of rfl)) h
theorem xv.e (k:Nat) (x:Tup (sigTys xv.hd)):fnK T0 (xv.env k) [] xv.C Tryz.f131 1 20 xv.hd xv.os x=xv.f k x:=by kernel_rfl
def xv.fn (k:Nat):Kn P0 G0:=⟨131,1,20,xv.hd,1,xv.os,fun x=>xv.f k x,contract (T:=T0) (fn:=Tryz.f131) hm0 hT0 (by kernel_rfl) (by kernel_rfl) (L:=[]) (C:=xv.C) (by kernel_rfl) (by decide) rfl (by kernel_rfl) (loops_fn xv.d trivial) (xv.e k),none⟩
def zZ.hd:Sig:=[⟨false,0,(.imm .bool)⟩,⟨false,1,(.imm (.list (.int .u32)))⟩]
def zZ.os:List Sig:=[[⟨false,0,(.agg api_Int (.acons (.imm .bool) (.acons (.own 7 false 111 (.int .u32)) .anil)))⟩]]
def zZ.C:List CutAt:=[]
def zZ.env (k:Nat):List (Kn P0 G0):=[zj.fn k]
theorem zZ.d:distN (loopIds (Tryz.f93.body.getD .skip) 0)=true:=by kernel_rfl
def zZ.b (c0:LI→Option LI) (a0:Bool) (a1:LI):Option (Bool × LI):=(Option.bind (c0 a1) fun y3=>(bif a0 then (some ((decide ((((List.length y3):Nat):Int) > (0:Int))),y3)) else (some (false,y3))))
def zZ.f (k:Nat) a0 a1:=zZ.b (zj.f k) a0 a1
noncomputable def zZ.V a0 a1:=lim fun k=>zZ.f k a0 a1
theorem zZ.v a0 a1 {y} (h:zZ.b zj.V a0 a1=some y):zZ.V a0 a1=some y:=Le.v (by unfold zZ.f zZ.b;repeat (first | with_reducible first | exact Le.const | refine Le.bind ?_ fun _=>?_ | refine Le.cond ?_ ?_ | refine Le.elim (fun _=>?_) fun _=>?_ | exact Le.of rfl)) h
theorem zZ.e (k:Nat) (x:Tup (sigTys zZ.hd)):fnK T0 (zZ.env k) [] zZ.C Tryz.f93 2 32 zZ.hd zZ.os x=zZ.f k x.1 x.2:=by kernel_rfl
def zZ.fn (k:Nat):Kn P0 G0:=⟨93,2,32,zZ.hd,1,zZ.os,fun x=>zZ.f k x.1 x.2,contract (T:=T0) (fn:=Tryz.f93) hm0 hT0 (by kernel_rfl) (by kernel_rfl) (L:=[]) (C:=zZ.C) (by kernel_rfl) (by decide) rfl (by kernel_rfl) (loops_fn zZ.d trivial) (zZ.e k),none⟩
def xw.hd:Sig:=[⟨false,0,(.imm (.int .i64))⟩]
def xw.os:List Sig:=[[⟨false,0,(.agg api_Int (.acons (.imm .bool) (.acons (.own 11 false 111 (.int .u32)) .anil)))⟩]]
def xw.C:List CutAt:=[]
def xw.env (k:Nat):List (Kn P0 G0):=[xv.fn k,zZ.fn k]
theorem xw.d:distN (loopIds (Tryz.f94.body.getD .skip) 0)=true:=by kernel_rfl
def xw.b (c0:Int→Option LI) (c1:Bool→LI→Option (Bool × LI)) (a0:Int):Option (Bool × LI):=(bif (decide (a0 < (0:Int))) then (Option.bind (c0 (IntKind.wrap .u64 ((IntKind.wrap .u64 (IntKind.wrap .i64 ((0:Int) - (IntKind.wrap .i64 (a0 + (1:Int)))))) + (1:Int)))) fun y2=>(Option.bind (c1 true y2) fun y3=>(some (y3.1,y3.2)))) else (Option.bind (c0 (IntKind.wrap .u64 a0)) fun y2=>(Option.bind (c1 false y2) fun y3=>(some (y3.1,y3.2)))))
def xw.f (k:Nat) a0:=xw.b (xv.f k) (zZ.f k) a0
noncomputable def xw.V a0:=lim fun k=>xw.f k a0
theorem xw.v a0 {y} (h:xw.b xv.V zZ.V a0=some y):xw.V a0=some y:=Le.v (by unfold xw.f xw.b;repeat (first | with_reducible first | exact Le.const | refine Le.bind ?_ fun _=>?_ | refine Le.cond ?_ ?_ | refine Le.elim (fun _=>?_) fun _=>?_ | exact Le.of rfl)) h
theorem xw.e (k:Nat) (x:Tup (sigTys xw.hd)):fnK T0 (xw.env k) [] xw.C Tryz.f94 1 32 xw.hd xw.os x=xw.f k x:=by kernel_rfl
def xw.fn (k:Nat):Kn P0 G0:=⟨94,1,32,xw.hd,1,xw.os,fun x=>xw.f k x,contract (T:=T0) (fn:=Tryz.f94) hm0 hT0 (by kernel_rfl) (by kernel_rfl) (L:=[]) (C:=xw.C) (by kernel_rfl) (by decide) rfl (by kernel_rfl) (loops_fn xw.d trivial) (xw.e k),none⟩
def yp.hd:Sig:=[⟨false,0,(.imm (.int .i64))⟩]
def yp.os:List Sig:=[[⟨false,0,(.agg api_Rat (.acons (.agg api_Int (.acons (.imm .bool) (.acons (.own 4 false 111 (.int .u32)) .anil))) (.acons (.own 5 false 111 (.int .u32)) .anil)))⟩]]
def yp.C:List CutAt:=[]
def yp.env (k:Nat):List (Kn P0 G0):=[xw.fn k]
theorem yp.d:distN (loopIds (Tryz.f47.body.getD .skip) 0)=true:=by kernel_rfl
def yp.b (c0:Int→Option (Bool × LI)) (a0:Int):Option (Bool × LI × LI):=(Option.bind (c0 a0) fun y2=>(some (y2.1,(y2.2,((1:Int) :: ([]:LI))))))
def yp.f (k:Nat) a0:=yp.b (xw.f k) a0
noncomputable def yp.V a0:=lim fun k=>yp.f k a0
theorem yp.v a0 {y} (h:yp.b xw.V a0=some y):yp.V a0=some y:=Le.v (by unfold yp.f yp.b;repeat (first | with_reducible first | exact Le.const | refine Le.bind ?_ fun _=>?_ | refine Le.cond ?_ ?_ | refine Le.elim (fun _=>?_) fun _=>?_ | exact Le.of rfl)) h
theorem yp.e (k:Nat) (x:Tup (sigTys yp.hd)):fnK T0 (yp.env k) [] yp.C Tryz.f47 1 14 yp.hd yp.os x=yp.f k x:=by kernel_rfl
def yp.fn (k:Nat):Kn P0 G0:=⟨47,1,14,yp.hd,1,yp.os,fun x=>yp.f k x,contract (T:=T0) (fn:=Tryz.f47) hm0 hT0 (by kernel_rfl) (by kernel_rfl) (L:=[]) (C:=yp.C) (by kernel_rfl) (by decide) rfl (by kernel_rfl) (loops_fn yp.d trivial) (yp.e k),none⟩
def xm.hd:Sig:=[⟨false,0,(.imm (.list (.int .u32)))⟩]
def xm.os:List Sig:=[[⟨false,0,(.imm .bool)⟩]]
def xm.C:List CutAt:=[]
def xm.env:List (Kn P0 G0):=[]
theorem xm.d:distN (loopIds (Tryz.f71.body.getD .skip) 0)=true:=by kernel_rfl
def xm.f (a0:LI):Option Bool:=(bif ((((List.length a0):Nat):Int) == (0:Int)) then (some true) else (bif (decide (((0:Int) ≤ (IntKind.wrap .i64 ((((List.length a0):Nat):Int) - (1:Int))))∧((IntKind.wrap .i64 ((((List.length a0):Nat):Int) - (1:Int))) < (((List.length a0):Nat):Int)))) then (some ((rdL (0:Int) a0 (IntKind.wrap .i64 ((((List.length a0):Nat):Int) - (1:Int)))) != (0:Int))) else none))
theorem xm.e (x:Tup (sigTys xm.hd)):fnK T0 xm.env [] xm.C Tryz.f71 1 30 xm.hd xm.os x=xm.f x:=by kernel_rfl
def xm.fn:Kn P0 G0:=⟨71,1,30,xm.hd,1,xm.os,fun x=>xm.f x,contract (T:=T0) (fn:=Tryz.f71) hm0 hT0 (by kernel_rfl) (by kernel_rfl) (L:=[]) (C:=xm.C) (by kernel_rfl) (by decide) rfl (by kernel_rfl) (loops_fn xm.d trivial) (xm.e),none⟩
def xG.hd:Sig:=[⟨false,0,(.imm (.list (.int .u32)))⟩,⟨false,1,(.imm (.int .i64))⟩]
def xG.os:List Sig:=[[⟨false,0,(.imm (.int .u64))⟩]]
def xG.C:List CutAt:=[]
def xG.env:List (Kn P0 G0):=[]
theorem xG.d:distN (loopIds (Tryz.f168.body.getD .skip) 0)=true:=by kernel_rfl
def xG.f (a0:LI) (a1:Int):Option Int:=(bif (decide (a1 ≥ (((List.length a0):Nat):Int))) then (some (0:Int)) else (bif (decide (((0:Int) ≤ a1)∧(a1 < (((List.length a0):Nat):Int)))) then (some (IntKind.wrap .u64 (rdL (0:Int) a0 a1))) else none))
theorem xG.e (x:Tup (sigTys xG.hd)):fnK T0 xG.env [] xG.C Tryz.f168 2 28 xG.hd xG.os x=xG.f x.1 x.2:=by kernel_rfl
def xG.fn:Kn P0 G0:=⟨168,2,28,xG.hd,1,xG.os,fun x=>xG.f x.1 x.2,contract (T:=T0) (fn:=Tryz.f168) hm0 hT0 (by kernel_rfl) (by kernel_rfl) (L:=[]) (C:=xG.C) (by kernel_rfl) (by decide) rfl (by kernel_rfl) (loops_fn xG.d trivial) (xG.e),none⟩
def xM.hd:Sig:=[⟨false,0,(.imm (.list (.int .u32)))⟩,⟨false,1,(.imm (.int .i64))⟩]
def xM.os:List Sig:=[[⟨false,0,(.imm .bool)⟩]]
def xM.C:List CutAt:=[]
def xM.env:List (Kn P0 G0):=[xG.fn]
theorem xM.d:distN (loopIds (Tryz.f167.body.getD .skip) 0)=true:=by kernel_rfl
def xM.f (a0:LI) (a1:Int):Option Bool:=(bif (decide (a1 ≥ (0:Int))) then (Option.bind (xG.f a0 (IntKind.wrap .i64 (Int.tdiv a1 (32:Int)))) fun y2=>(bif (decide ((IntKind.wrap .u64 (Int.tmod a1 (32:Int))) < (0:Int))) then none else (some ((band .u64 (shrI .u64 y2 (IntKind.wrap .u64 (Int.tmod a1 (32:Int)))) (1:Int)) == (1:Int))))) else (some false))
theorem xM.e (x:Tup (sigTys xM.hd)):fnK T0 xM.env [] xM.C Tryz.f167 2 38 xM.hd xM.os x=xM.f x.1 x.2:=by kernel_rfl
def xM.fn:Kn P0 G0:=⟨167,2,38,xM.hd,1,xM.os,fun x=>xM.f x.1 x.2,contract (T:=T0) (fn:=Tryz.f167) hm0 hT0 (by kernel_rfl) (by kernel_rfl) (L:=[]) (C:=xM.C) (by kernel_rfl) (by decide) rfl (by kernel_rfl) (loops_fn xM.d trivial) (xM.e),none⟩
def zG.hd:Sig:=[⟨false,0,(.imm (.list (.int .u32)))⟩]
def zG.os:List Sig:=[[⟨false,0,(.imm (.int .i64))⟩]]
def zG.h0:Sig:=[⟨false,0,(.imm (.list (.int .u32)))⟩,⟨false,3,(.imm (.int .i64))⟩]
def zG.o0:Outs:=[((.exit 0),[⟨false,3,(.imm (.int .i64))⟩])]
def zG.C:List CutAt:=[]
def zG.env (k:Nat):List (Kn P0 G0):=[xM.fn]
theorem zG.d:distN (loopIds (Tryz.f142.body.getD .skip) 0)=true:=by kernel_rfl
def zG.b0 (c0:LI→Int→Option Int) (x0:LI) (x1:Int):Option Int:=(bif (decide (x1 > (0:Int))) then (Option.bind (xM.f x0 (IntKind.wrap .i64 (x1 - (1:Int)))) fun y4=>(bif (!y4) then (c0 x0 (IntKind.wrap .i64 (x1 - (1:Int)))) else (some x1))) else (some x1))
def zG.l0:Nat→LI→Int→Option Int
 | 0,_,_=>none
 | k + 1,x0,x1=>zG.b0 (zG.l0 k) x0 x1
noncomputable def zG.V0 x0 x1:=lim fun k=>zG.l0 k x0 x1
theorem zG.v0 x0 x1 {y} (h:zG.b0 zG.V0 x0 x1=some y):zG.V0 x0 x1=some y:=Le.v (.succ (by unfold zG.l0 zG.b0;repeat (first | with_reducible first | exact Le.const | refine Le.bind ?_ fun _=>?_ | refine Le.cond ?_ ?_ | refine Le.elim (fun _=>?_) fun _=>?_ | exact Le.of rfl))) h
def zG.L0 (k:Nat):LFn:=⟨zG.h0,zG.o0,fun x=>zG.l0 k x.1 x.2⟩
theorem zG.r0 (k:Nat) (x:Tup (sigTys zG.h0)):roundK T0 (zG.env k) 19 38 [] zG.C (loopOf Tryz.f142 0) 0 zG.h0 zG.o0 (zG.L0 k).f x=(zG.L0 (k + 1)).f x:=by kernel_rfl
theorem zG.s0 (k:Nat):LoopSound P0 G0 19 38 (sigPins zG.hd) (zG.L0 k) (loopOf Tryz.f142 0):=loop_rounds (T:=T0) hm0 hT0 (env:=fun k=>(zG.env k)) (nh:=38) (pn:=sigPins zG.hd) (L:=fun k=>[]) (C:=zG.C) (by kernel_rfl) (hd:=zG.h0) (os:=zG.o0) (by kernel_rfl) (by kernel_rfl) (by kernel_rfl) (g:=fun k=>(zG.L0 k).f) (fun k=>loops_in zG.d trivial) (fun _=>rfl) (fun k x=>zG.r0 k x) k
def zG.b (c0:LI→Int→Option Int) (a0:LI):Option Int:=(Option.bind (c0 a0 (IntKind.wrap .i64 ((32:Int) * (((List.length a0):Nat):Int)))) fun y2=>(some y2))
def zG.f (k:Nat) a0:=zG.b (zG.l0 k) a0
noncomputable def zG.V a0:=lim fun k=>zG.f k a0
theorem zG.v a0 {y} (h:zG.b zG.V0 a0=some y):zG.V a0=some y:=Le.v (by unfold zG.f zG.b;repeat (first | with_reducible first | exact Le.const | refine Le.bind ?_ fun _=>?_ | refine Le.cond ?_ ?_ | refine Le.elim (fun _=>?_) fun _=>?_ | exact Le.of rfl)) h
theorem zG.e (k:Nat) (x:Tup (sigTys zG.hd)):fnK T0 (zG.env k) [⟨0,zG.L0 k⟩] zG.C Tryz.f142 1 38 zG.hd zG.os x=zG.f k x:=by kernel_rfl
def zG.fn (k:Nat):Kn P0 G0:=⟨142,1,38,zG.hd,1,zG.os,fun x=>zG.f k x,contract (T:=T0) (fn:=Tryz.f142) hm0 hT0 (by kernel_rfl) (by kernel_rfl) (L:=[⟨0,zG.L0 k⟩]) (C:=zG.C) (by kernel_rfl) (by decide) rfl (by kernel_rfl) (loops_fn zG.d ⟨zG.s0 k,trivial⟩) (zG.e k),none⟩
def zY.hd:Sig:=[⟨false,0,(.imm (.list (.int .u32)))⟩,⟨false,1,(.imm (.int .i64))⟩]
def zY.os:List Sig:=[[⟨false,0,(.own 46 false 111 (.int .u32))⟩]]
def zY.h0:Sig:=[⟨false,0,(.imm (.list (.int .u32)))⟩,⟨false,1,(.imm (.int .i64))⟩,⟨false,5,(.own 16 false 111 (.int .u32))⟩,⟨false,6,(.imm (.int .u64))⟩,⟨false,7,(.imm (.int .i64))⟩]
def zY.o0:Outs:=[((.exit 0),[⟨false,5,(.own 16 false 111 (.int .u32))⟩,⟨false,6,(.imm (.int .u64))⟩])]
def zY.C:List CutAt:=[]
def zY.env (k:Nat):List (Kn P0 G0):=[zj.fn k]
theorem zY.d:distN (loopIds (Tryz.f143.body.getD .skip) 0)=true:=by kernel_rfl
def zY.b0 (c0:LI→Int→LI→Int→Int→Option (LI × Int)) (x0:LI) (x1:Int) (x2:LI) (x3:Int) (x4:Int):Option (LI × Int):=(bif (decide (x4 < (((List.length x0):Nat):Int))) then (bif (decide (((0:Int) ≤ x4)∧(x4 < (((List.length x0):Nat):Int)))) then (bif (decide ((IntKind.wrap .u64 (Int.tmod x1 (32:Int))) < (0:Int))) then none else (bif (decide (((List.length x2) + (List.length ((IntKind.wrap .u32 (bor .u64 x3 (shlI .u64 (IntKind.wrap .u64 (rdL (0:Int) x0 x4)) (IntKind.wrap .u64 (Int.tmod x1 (32:Int)))))) :: ([]:LI)))) ≤ 68719476736)) then (c0 x0 x1 (x2 ++ ((IntKind.wrap .u32 (bor .u64 x3 (shlI .u64 (IntKind.wrap .u64 (rdL (0:Int) x0 x4)) (IntKind.wrap .u64 (Int.tmod x1 (32:Int)))))) :: ([]:LI))) (shrI .u64 (bor .u64 x3 (shlI .u64 (IntKind.wrap .u64 (rdL (0:Int) x0 x4)) (IntKind.wrap .u64 (Int.tmod x1 (32:Int))))) (32:Int)) (IntKind.wrap .i64 (x4 + (1:Int)))) else none)) else none) else (some (x2,x3)))
def zY.l0:Nat→LI→Int→LI→Int→Int→Option (LI × Int)
 | 0,_,_,_,_,_=>none
 | k + 1,x0,x1,x2,x3,x4=>zY.b0 (zY.l0 k) x0 x1 x2 x3 x4
noncomputable def zY.V0 x0 x1 x2 x3 x4:=lim fun k=>zY.l0 k x0 x1 x2 x3 x4
theorem zY.v0 x0 x1 x2 x3 x4 {y} (h:zY.b0 zY.V0 x0 x1 x2 x3 x4=some y):zY.V0 x0 x1 x2 x3 x4=some y:=Le.v (.succ (by unfold zY.l0 zY.b0;repeat (first | with_reducible first | exact Le.const | refine Le.bind ?_ fun _=>?_ | refine Le.cond ?_ ?_ | refine Le.elim (fun _=>?_) fun _=>?_ | exact Le.of rfl))) h
def zY.L0 (k:Nat):LFn:=⟨zY.h0,zY.o0,fun x=>zY.l0 k x.1 x.2.1 x.2.2.1 x.2.2.2.1 x.2.2.2.2⟩
theorem zY.r0 (k:Nat) (x:Tup (sigTys zY.h0)):roundK T0 (zY.env k) 47 94 [] zY.C (loopOf Tryz.f143 0) 0 zY.h0 zY.o0 (zY.L0 k).f x=(zY.L0 (k + 1)).f x:=by kernel_rfl
theorem zY.s0 (k:Nat):LoopSound P0 G0 47 94 (sigPins zY.hd) (zY.L0 k) (loopOf Tryz.f143 0):=loop_rounds (T:=T0) hm0 hT0 (env:=fun k=>(zY.env k)) (nh:=94) (pn:=sigPins zY.hd) (L:=fun k=>[]) (C:=zY.C) (by kernel_rfl) (hd:=zY.h0) (os:=zY.o0) (by kernel_rfl) (by kernel_rfl) (by kernel_rfl) (g:=fun k=>(zY.L0 k).f) (fun k=>loops_in zY.d trivial) (fun _=>rfl) (fun k x=>zY.r0 k x) k
def zY.b (c0:LI→Int→LI→Int→Int→Option (LI × Int)) (c1:LI→Option LI) (a0:LI) (a1:Int):Option LI:=(bif (decide (((0:Int) ≤ (IntKind.wrap .i64 (Int.tdiv a1 (32:Int))))∧(((IntKind.wrap .i64 (Int.tdiv a1 (32:Int))) ≤ (IntKind.wrap .i64 ((IntKind.wrap .i64 ((IntKind.wrap .i64 (Int.tdiv a1 (32:Int))) + (((List.length a0):Nat):Int))) + (1:Int))))∧((IntKind.wrap .i64 ((IntKind.wrap .i64 ((IntKind.wrap .i64 (Int.tdiv a1 (32:Int))) + (((List.length a0):Nat):Int))) + (1:Int))) ≤ ((68719476736:Nat):Int))))) then (Option.bind (c0 a0 (a1,((List.replicate (Int.toNat (IntKind.wrap .i64 (Int.tdiv a1 (32:Int)))) (0:Int)),((0:Int),(0:Int)))).1 (a1,((List.replicate (Int.toNat (IntKind.wrap .i64 (Int.tdiv a1 (32:Int)))) (0:Int)),((0:Int),(0:Int)))).2.1 (a1,((List.replicate (Int.toNat (IntKind.wrap .i64 (Int.tdiv a1 (32:Int)))) (0:Int)),((0:Int),(0:Int)))).2.2.1 (a1,((List.replicate (Int.toNat (IntKind.wrap .i64 (Int.tdiv a1 (32:Int)))) (0:Int)),((0:Int),(0:Int)))).2.2.2) fun y3=>(bif (decide (((List.length y3.1) + (List.length ((IntKind.wrap .u32 y3.2) :: ([]:LI)))) ≤ 68719476736)) then (Option.bind (c1 (y3.1 ++ ((IntKind.wrap .u32 y3.2) :: ([]:LI)))) fun y4=>(some y4)) else none)) else none)
def zY.f (k:Nat) a0 a1:=zY.b (zY.l0 k) (zj.f k) a0 a1
noncomputable def zY.V a0 a1:=lim fun k=>zY.f k a0 a1
theorem zY.v a0 a1 {y} (h:zY.b zY.V0 zj.V a0 a1=some y):zY.V a0 a1=some y:=Le.v (by unfold zY.f zY.b;repeat (first | with_reducible first | exact Le.const | refine Le.bind ?_ fun _=>?_ | refine Le.cond ?_ ?_ | refine Le.elim (fun _=>?_) fun _=>?_ | exact Le.of rfl)) h
theorem zY.e (k:Nat) (x:Tup (sigTys zY.hd)):fnK T0 (zY.env k) [⟨0,zY.L0 k⟩] zY.C Tryz.f143 2 94 zY.hd zY.os x=zY.f k x.1 x.2:=by kernel_rfl
def zY.fn (k:Nat):Kn P0 G0:=⟨143,2,94,zY.hd,1,zY.os,fun x=>zY.f k x.1 x.2,contract (T:=T0) (fn:=Tryz.f143) hm0 hT0 (by kernel_rfl) (by kernel_rfl) (L:=[⟨0,zY.L0 k⟩]) (C:=zY.C) (by kernel_rfl) (by decide) rfl (by kernel_rfl) (loops_fn zY.d ⟨zY.s0 k,trivial⟩) (zY.e k),none⟩
def zI.hd:Sig:=[⟨false,0,(.imm (.list (.int .u32)))⟩,⟨false,1,(.imm (.list (.int .u32)))⟩]
def zI.os:List Sig:=[[⟨false,0,(.imm (.int .i64))⟩]]
def zI.h0:Sig:=[⟨false,0,(.imm (.list (.int .u32)))⟩,⟨false,1,(.imm (.list (.int .u32)))⟩,⟨false,5,(.imm (.int .i64))⟩]
def zI.o0:Outs:=[((.exit 0),[]),(.ret,[⟨false,4,(.imm (.int .i64))⟩])]
def zI.C:List CutAt:=[]
def zI.env (k:Nat):List (Kn P0 G0):=[xG.fn]
theorem zI.d:distN (loopIds (Tryz.f144.body.getD .skip) 0)=true:=by kernel_rfl
def zI.b0 (c0:LI→LI→Int→Option ((Unit) ⊕ Int)) (x0:LI) (x1:LI) (x2:Int):Option ((Unit) ⊕ Int):=(bif (decide (x2 ≥ (0:Int))) then (Option.bind (xG.f x0 x2) fun y5=>(Option.bind (xG.f x1 x2) fun y6=>(bif (decide (y5 < y6)) then (some (Sum.inr (-(1:Int)))) else (Option.bind (xG.f x0 x2) fun y7=>(Option.bind (xG.f x1 x2) fun y8=>(bif (decide (y7 > y8)) then (some (Sum.inr (1:Int))) else (c0 x0 x1 (IntKind.wrap .i64 (x2 - (1:Int)))))))))) else (some (Sum.inl ())))
def zI.l0:Nat→LI→LI→Int→Option ((Unit) ⊕ Int)
 | 0,_,_,_=>none
 | k + 1,x0,x1,x2=>zI.b0 (zI.l0 k) x0 x1 x2
noncomputable def zI.V0 x0 x1 x2:=lim fun k=>zI.l0 k x0 x1 x2
theorem zI.v0 x0 x1 x2 {y} (h:zI.b0 zI.V0 x0 x1 x2=some y):zI.V0 x0 x1 x2=some y:=Le.v (.succ (by unfold zI.l0 zI.b0;repeat (first | with_reducible first | exact Le.const | refine Le.bind ?_ fun _=>?_ | refine Le.cond ?_ ?_ | refine Le.elim (fun _=>?_) fun _=>?_ | exact Le.of rfl))) h
def zI.L0 (k:Nat):LFn:=⟨zI.h0,zI.o0,fun x=>zI.l0 k x.1 x.2.1 x.2.2⟩
theorem zI.r0 (k:Nat) (x:Tup (sigTys zI.h0)):roundK T0 (zI.env k) 30 60 [] zI.C (loopOf Tryz.f144 0) 0 zI.h0 zI.o0 (zI.L0 k).f x=(zI.L0 (k + 1)).f x:=by kernel_rfl
theorem zI.s0 (k:Nat):LoopSound P0 G0 30 60 (sigPins zI.hd) (zI.L0 k) (loopOf Tryz.f144 0):=loop_rounds (T:=T0) hm0 hT0 (env:=fun k=>(zI.env k)) (nh:=60) (pn:=sigPins zI.hd) (L:=fun k=>[]) (C:=zI.C) (by kernel_rfl) (hd:=zI.h0) (os:=zI.o0) (by kernel_rfl) (by kernel_rfl) (by kernel_rfl) (g:=fun k=>(zI.L0 k).f) (fun k=>loops_in zI.d trivial) (fun _=>rfl) (fun k x=>zI.r0 k x) k
def zI.b (c0:LI→LI→Int→Option ((Unit) ⊕ Int)) (a0:LI) (a1:LI):Option Int:=(Option.bind (c0 a0 (a1,(IntKind.wrap .i64 ((mxI (((List.length a0):Nat):Int) (((List.length a1):Nat):Int)) - (1:Int)))).1 (a1,(IntKind.wrap .i64 ((mxI (((List.length a0):Nat):Int) (((List.length a1):Nat):Int)) - (1:Int)))).2) fun y3=>(Sum.elim (fun y4=>(some (0:Int))) (fun y4=>(some y4)) y3))
def zI.f (k:Nat) a0 a1:=zI.b (zI.l0 k) a0 a1
noncomputable def zI.V a0 a1:=lim fun k=>zI.f k a0 a1
theorem zI.v a0 a1 {y} (h:zI.b zI.V0 a0 a1=some y):zI.V a0 a1=some y:=Le.v (by unfold zI.f zI.b;repeat (first | with_reducible first | exact Le.const | refine Le.bind ?_ fun _=>?_ | refine Le.cond ?_ ?_ | refine Le.elim (fun _=>?_) fun _=>?_ | exact Le.of rfl)) h
theorem zI.e (k:Nat) (x:Tup (sigTys zI.hd)):fnK T0 (zI.env k) [⟨0,zI.L0 k⟩] zI.C Tryz.f144 2 60 zI.hd zI.os x=zI.f k x.1 x.2:=by kernel_rfl
def zI.fn (k:Nat):Kn P0 G0:=⟨144,2,60,zI.hd,1,zI.os,fun x=>zI.f k x.1 x.2,contract (T:=T0) (fn:=Tryz.f144) hm0 hT0 (by kernel_rfl) (by kernel_rfl) (L:=[⟨0,zI.L0 k⟩]) (C:=zI.C) (by kernel_rfl) (by decide) rfl (by kernel_rfl) (loops_fn zI.d ⟨zI.s0 k,trivial⟩) (zI.e k),none⟩
def zN.hd:Sig:=[⟨false,0,(.imm (.list (.int .u32)))⟩,⟨false,1,(.imm (.list (.int .u32)))⟩]
def zN.os:List Sig:=[[⟨false,0,(.own 37 false 111 (.int .u32))⟩]]
def zN.h0:Sig:=[⟨false,0,(.imm (.list (.int .u32)))⟩,⟨false,1,(.imm (.list (.int .u32)))⟩,⟨false,5,(.own 35 false 111 (.int .u32))⟩,⟨false,6,(.imm (.int .u64))⟩,⟨false,7,(.imm (.int .i64))⟩]
def zN.o0:Outs:=[((.exit 0),[⟨false,5,(.own 35 false 111 (.int .u32))⟩])]
def zN.C:List CutAt:=[⟨11,[(.normal,[⟨false,0,(.imm (.list (.int .u32)))⟩,⟨false,1,(.imm (.list (.int .u32)))⟩,⟨false,5,(.own 35 false 111 (.int .u32))⟩,⟨false,6,(.imm (.int .u64))⟩,⟨false,7,(.imm (.int .i64))⟩,⟨false,8,(.imm (.int .u64))⟩,⟨false,9,(.imm (.int .u64))⟩])]⟩]
def zN.env (k:Nat):List (Kn P0 G0):=[xG.fn,zj.fn k]
theorem zN.d:distN (loopIds (Tryz.f145.body.getD .skip) 0)=true:=by kernel_rfl
def zN.b0 (c0:LI→LI→LI→Int→Int→Option LI) (x0:LI) (x1:LI) (x2:LI) (x3:Int) (x4:Int):Option LI:=(bif (decide (x4 < (((List.length x0):Nat):Int))) then (Option.bind (xG.f x0 x4) fun y7=>(Option.bind (xG.f x1 x4) fun y8=>(Option.bind (bif (decide (y7 < (IntKind.wrap .u64 (y8 + x3)))) then (some (x0,(x1,(x2,((1:Int),(x4,((IntKind.wrap .u64 (y7 + (4294967296:Int))),(IntKind.wrap .u64 (y8 + x3))))))))) else (some (x0,(x1,(x2,((0:Int),(x4,(y7,(IntKind.wrap .u64 (y8 + x3)))))))))) fun y9=>(bif (decide (((List.length y9.2.2.1) + (List.length ((IntKind.wrap .u32 (IntKind.wrap .u64 (y9.2.2.2.2.2.1 - y9.2.2.2.2.2.2))) :: ([]:LI)))) ≤ 68719476736)) then (c0 y9.1 y9.2.1 (y9.2.2.1 ++ ((IntKind.wrap .u32 (IntKind.wrap .u64 (y9.2.2.2.2.2.1 - y9.2.2.2.2.2.2))) :: ([]:LI))) y9.2.2.2.1 (IntKind.wrap .i64 (y9.2.2.2.2.1 + (1:Int)))) else none)))) else (some x2))
def zN.l0:Nat→LI→LI→LI→Int→Int→Option LI
 | 0,_,_,_,_,_=>none
 | k + 1,x0,x1,x2,x3,x4=>zN.b0 (zN.l0 k) x0 x1 x2 x3 x4
noncomputable def zN.V0 x0 x1 x2 x3 x4:=lim fun k=>zN.l0 k x0 x1 x2 x3 x4
theorem zN.v0 x0 x1 x2 x3 x4 {y} (h:zN.b0 zN.V0 x0 x1 x2 x3 x4=some y):zN.V0 x0 x1 x2 x3 x4=some y:=Le.v (.succ (by unfold zN.l0 zN.b0;repeat (first | with_reducible first | exact Le.const | refine Le.bind ?_ fun _=>?_ | refine Le.cond ?_ ?_ | refine Le.elim (fun _=>?_) fun _=>?_ | exact Le.of rfl))) h
def zN.L0 (k:Nat):LFn:=⟨zN.h0,zN.o0,fun x=>zN.l0 k x.1 x.2.1 x.2.2.1 x.2.2.2.1 x.2.2.2.2⟩
theorem zN.r0 (k:Nat) (x:Tup (sigTys zN.h0)):roundK T0 (zN.env k) 38 76 [] zN.C (loopOf Tryz.f145 0) 0 zN.h0 zN.o0 (zN.L0 k).f x=(zN.L0 (k + 1)).f x:=by kernel_rfl
theorem zN.s0 (k:Nat):LoopSound P0 G0 38 76 (sigPins zN.hd) (zN.L0 k) (loopOf Tryz.f145 0):=loop_rounds (T:=T0) hm0 hT0 (env:=fun k=>(zN.env k)) (nh:=76) (pn:=sigPins zN.hd) (L:=fun k=>[]) (C:=zN.C) (by kernel_rfl) (hd:=zN.h0) (os:=zN.o0) (by kernel_rfl) (by kernel_rfl) (by kernel_rfl) (g:=fun k=>(zN.L0 k).f) (fun k=>loops_in zN.d trivial) (fun _=>rfl) (fun k x=>zN.r0 k x) k
def zN.b (c0:LI→LI→LI→Int→Int→Option LI) (c1:LI→Option LI) (a0:LI) (a1:LI):Option LI:=(Option.bind (c0 a0 (a1,(([]:LI),((0:Int),(0:Int)))).1 (a1,(([]:LI),((0:Int),(0:Int)))).2.1 (a1,(([]:LI),((0:Int),(0:Int)))).2.2.1 (a1,(([]:LI),((0:Int),(0:Int)))).2.2.2) fun y3=>(Option.bind (c1 y3) fun y4=>(some y4)))
def zN.f (k:Nat) a0 a1:=zN.b (zN.l0 k) (zj.f k) a0 a1
noncomputable def zN.V a0 a1:=lim fun k=>zN.f k a0 a1
theorem zN.v a0 a1 {y} (h:zN.b zN.V0 zj.V a0 a1=some y):zN.V a0 a1=some y:=Le.v (by unfold zN.f zN.b;repeat (first | with_reducible first | exact Le.const | refine Le.bind ?_ fun _=>?_ | refine Le.cond ?_ ?_ | refine Le.elim (fun _=>?_) fun _=>?_ | exact Le.of rfl)) h
theorem zN.e (k:Nat) (x:Tup (sigTys zN.hd)):fnK T0 (zN.env k) [⟨0,zN.L0 k⟩] zN.C Tryz.f145 2 76 zN.hd zN.os x=zN.f k x.1 x.2:=by kernel_rfl
def zN.fn (k:Nat):Kn P0 G0:=⟨145,2,76,zN.hd,1,zN.os,fun x=>zN.f k x.1 x.2,contract (T:=T0) (fn:=Tryz.f145) hm0 hT0 (by kernel_rfl) (by kernel_rfl) (L:=[⟨0,zN.L0 k⟩]) (C:=zN.C) (by kernel_rfl) (by decide) rfl (by kernel_rfl) (loops_fn zN.d ⟨zN.s0 k,trivial⟩) (zN.e k),none⟩
def zE.hd:Sig:=[⟨false,0,(.imm (.list (.int .u32)))⟩,⟨false,1,(.imm (.int .i64))⟩]
def zE.os:List Sig:=[[⟨false,0,(.own 45 false 111 (.int .u32))⟩]]
def zE.h0:Sig:=[⟨false,0,(.imm (.list (.int .u32)))⟩,⟨false,1,(.imm (.int .i64))⟩,⟨false,5,(.own 43 false 111 (.int .u32))⟩,⟨false,6,(.imm (.int .i64))⟩]
def zE.o0:Outs:=[((.exit 0),[⟨false,5,(.own 43 false 111 (.int .u32))⟩])]
def zE.C:List CutAt:=[⟨8,[(.normal,[⟨false,0,(.imm (.list (.int .u32)))⟩,⟨false,1,(.imm (.int .i64))⟩,⟨false,5,(.own 43 false 111 (.int .u32))⟩,⟨false,6,(.imm (.int .i64))⟩,⟨false,7,(.imm (.int .u64))⟩])]⟩]
def zE.env (k:Nat):List (Kn P0 G0):=[zj.fn k]
theorem zE.d:distN (loopIds (Tryz.f146.body.getD .skip) 0)=true:=by kernel_rfl
def zE.b0 (c0:LI→Int→LI→Int→Option LI) (x0:LI) (x1:Int) (x2:LI) (x3:Int):Option LI:=(bif (decide (x3 < (((List.length x0):Nat):Int))) then (bif (decide (((0:Int) ≤ x3)∧(x3 < (((List.length x0):Nat):Int)))) then (Option.bind (bif (decide ((IntKind.wrap .i64 (x3 + (1:Int))) < (((List.length x0):Nat):Int))) then (bif (decide (((0:Int) ≤ (IntKind.wrap .i64 (x3 + (1:Int))))∧((IntKind.wrap .i64 (x3 + (1:Int))) < (((List.length x0):Nat):Int)))) then (some (x0,(x1,(x2,(x3,(bor .u64 (IntKind.wrap .u64 (rdL (0:Int) x0 x3)) (shlI .u64 (IntKind.wrap .u64 (rdL (0:Int) x0 (IntKind.wrap .i64 (x3 + (1:Int))))) (32:Int)))))))) else none) else (some (x0,(x1,(x2,(x3,(IntKind.wrap .u64 (rdL (0:Int) x0 x3)))))))) fun y6=>(bif (decide ((IntKind.wrap .u64 (Int.tmod y6.2.1 (32:Int))) < (0:Int))) then none else (bif (decide (((List.length y6.2.2.1) + (List.length ((IntKind.wrap .u32 (shrI .u64 y6.2.2.2.2 (IntKind.wrap .u64 (Int.tmod y6.2.1 (32:Int))))) :: ([]:LI)))) ≤ 68719476736)) then (c0 y6.1 y6.2.1 (y6.2.2.1 ++ ((IntKind.wrap .u32 (shrI .u64 y6.2.2.2.2 (IntKind.wrap .u64 (Int.tmod y6.2.1 (32:Int))))) :: ([]:LI))) (IntKind.wrap .i64 (y6.2.2.2.1 + (1:Int)))) else none))) else none) else (some x2))
def zE.l0:Nat→LI→Int→LI→Int→Option LI
 | 0,_,_,_,_=>none
 | k + 1,x0,x1,x2,x3=>zE.b0 (zE.l0 k) x0 x1 x2 x3
noncomputable def zE.V0 x0 x1 x2 x3:=lim fun k=>zE.l0 k x0 x1 x2 x3
theorem zE.v0 x0 x1 x2 x3 {y} (h:zE.b0 zE.V0 x0 x1 x2 x3=some y):zE.V0 x0 x1 x2 x3=some y:=Le.v (.succ (by unfold zE.l0 zE.b0;repeat (first | with_reducible first | exact Le.const | refine Le.bind ?_ fun _=>?_ | refine Le.cond ?_ ?_ | refine Le.elim (fun _=>?_) fun _=>?_ | exact Le.of rfl))) h
def zE.L0 (k:Nat):LFn:=⟨zE.h0,zE.o0,fun x=>zE.l0 k x.1 x.2.1 x.2.2.1 x.2.2.2⟩
theorem zE.r0 (k:Nat) (x:Tup (sigTys zE.h0)):roundK T0 (zE.env k) 46 92 [] zE.C (loopOf Tryz.f146 0) 0 zE.h0 zE.o0 (zE.L0 k).f x=(zE.L0 (k + 1)).f x:=by kernel_rfl
theorem zE.s0 (k:Nat):LoopSound P0 G0 46 92 (sigPins zE.hd) (zE.L0 k) (loopOf Tryz.f146 0):=loop_rounds (T:=T0) hm0 hT0 (env:=fun k=>(zE.env k)) (nh:=92) (pn:=sigPins zE.hd) (L:=fun k=>[]) (C:=zE.C) (by kernel_rfl) (hd:=zE.h0) (os:=zE.o0) (by kernel_rfl) (by kernel_rfl) (by kernel_rfl) (g:=fun k=>(zE.L0 k).f) (fun k=>loops_in zE.d trivial) (fun _=>rfl) (fun k x=>zE.r0 k x) k
def zE.b (c0:LI→Int→LI→Int→Option LI) (c1:LI→Option LI) (a0:LI) (a1:Int):Option LI:=(Option.bind (c0 a0 (a1,(([]:LI),(IntKind.wrap .i64 (Int.tdiv a1 (32:Int))))).1 (a1,(([]:LI),(IntKind.wrap .i64 (Int.tdiv a1 (32:Int))))).2.1 (a1,(([]:LI),(IntKind.wrap .i64 (Int.tdiv a1 (32:Int))))).2.2) fun y3=>(Option.bind (c1 y3) fun y4=>(some y4)))
def zE.f (k:Nat) a0 a1:=zE.b (zE.l0 k) (zj.f k) a0 a1
noncomputable def zE.V a0 a1:=lim fun k=>zE.f k a0 a1
theorem zE.v a0 a1 {y} (h:zE.b zE.V0 zj.V a0 a1=some y):zE.V a0 a1=some y:=Le.v (by unfold zE.f zE.b;repeat (first | with_reducible first | exact Le.const | refine Le.bind ?_ fun _=>?_ | refine Le.cond ?_ ?_ | refine Le.elim (fun _=>?_) fun _=>?_ | exact Le.of rfl)) h
theorem zE.e (k:Nat) (x:Tup (sigTys zE.hd)):fnK T0 (zE.env k) [⟨0,zE.L0 k⟩] zE.C Tryz.f146 2 92 zE.hd zE.os x=zE.f k x.1 x.2:=by kernel_rfl
def zE.fn (k:Nat):Kn P0 G0:=⟨146,2,92,zE.hd,1,zE.os,fun x=>zE.f k x.1 x.2,contract (T:=T0) (fn:=Tryz.f146) hm0 hT0 (by kernel_rfl) (by kernel_rfl) (L:=[⟨0,zE.L0 k⟩]) (C:=zE.C) (by kernel_rfl) (by decide) rfl (by kernel_rfl) (loops_fn zE.d ⟨zE.s0 k,trivial⟩) (zE.e k),none⟩
def zJ.hd:Sig:=[⟨false,0,(.imm (.list (.int .u32)))⟩,⟨false,1,(.imm (.list (.int .u32)))⟩]
def zJ.os:List Sig:=[[⟨false,0,(.agg ref03_Got (.acons (.own 55 false 111 (.int .u32)) (.acons (.own 15 false 111 (.int .u32)) (.acons (.imm .bool) .anil))))⟩]]
def zJ.h0:Sig:=[⟨true,4,(.agg ref03_Got (.acons .nilS (.acons .nilS (.acons (.imm .bool) .anil))))⟩,⟨false,4,(.ptr 4 [] ref03_Got)⟩,⟨false,5,(.own 15 false 111 (.int .u32))⟩,⟨false,7,(.own 25 false 111 (.int .u32))⟩,⟨false,8,(.own 28 false 111 (.int .u32))⟩,⟨false,9,(.imm (.int .i64))⟩]
def zJ.o0:Outs:=[((.exit 0),[⟨true,4,(.agg ref03_Got (.acons .nilS (.acons .nilS (.acons (.imm .bool) .anil))))⟩,⟨false,4,(.ptr 4 [] ref03_Got)⟩,⟨false,5,(.own 15 false 111 (.int .u32))⟩,⟨false,7,(.own 25 false 111 (.int .u32))⟩])]
def zJ.C:List CutAt:=[]
def zJ.env (k:Nat):List (Kn P0 G0):=[zG.fn k,zj.fn k,zY.fn k,zI.fn k,zN.fn k,zE.fn k]
theorem zJ.d:distN (loopIds (Tryz.f108.body.getD .skip) 0)=true:=by kernel_rfl
def zJ.b0 (c0:LI→LI→Option Int) (c1:LI→LI→Option LI) (c2:LI→Int→Option LI) (c3:Bool→LI→LI→LI→Int→Option (Bool × LI × LI)) (x0:Bool) (x1:LI) (x2:LI) (x3:LI) (x4:Int):Option (Bool × LI × LI):=(bif (decide (x4 ≥ (0:Int))) then (Option.bind (c0 x1 x3) fun y7=>(bif (decide (y7 ≥ (0:Int))) then (Option.bind (c1 x1 x3) fun y8=>(bif (decide (((0:Int) ≤ (IntKind.wrap .i64 (Int.tdiv x4 (32:Int))))∧((IntKind.wrap .i64 (Int.tdiv x4 (32:Int))) < (((List.length x2):Nat):Int)))) then (bif (decide ((IntKind.wrap .u64 (Int.tmod x4 (32:Int))) < (0:Int))) then none else (bif (decide (((0:Int) ≤ (IntKind.wrap .i64 (Int.tdiv x4 (32:Int))))∧((IntKind.wrap .i64 (Int.tdiv x4 (32:Int))) < (((List.length x2):Nat):Int)))) then (Option.bind (c2 x3 (1:Int)) fun y9=>(c3 x0 y8 (List.set x2 (Int.toNat (IntKind.wrap .i64 (Int.tdiv x4 (32:Int)))) (bor .u32 (rdL (0:Int) x2 (IntKind.wrap .i64 (Int.tdiv x4 (32:Int)))) (shlI .u32 (1:Int) (IntKind.wrap .u64 (Int.tmod x4 (32:Int)))))) y9 (IntKind.wrap .i64 (x4 - (1:Int))))) else none)) else none)) else (Option.bind (c2 x3 (1:Int)) fun y8=>(c3 x0 x1 x2 y8 (IntKind.wrap .i64 (x4 - (1:Int))))))) else (some (x0,(x1,x2))))
def zJ.l0:Nat→Bool→LI→LI→LI→Int→Option (Bool × LI × LI)
 | 0,_,_,_,_,_=>none
 | k + 1,x0,x1,x2,x3,x4=>zJ.b0 (zI.f k) (zN.f k) (zE.f k) (zJ.l0 k) x0 x1 x2 x3 x4
noncomputable def zJ.V0 x0 x1 x2 x3 x4:=lim fun k=>zJ.l0 k x0 x1 x2 x3 x4
theorem zJ.v0 x0 x1 x2 x3 x4 {y} (h:zJ.b0 zI.V zN.V zE.V zJ.V0 x0 x1 x2 x3 x4=some y):zJ.V0 x0 x1 x2 x3 x4=some y:=Le.v (.succ (by unfold zJ.l0 zJ.b0;repeat (first | with_reducible first | exact Le.const | refine Le.bind ?_ fun _=>?_ | refine Le.cond ?_ ?_ | refine Le.elim (fun _=>?_) fun _=>?_ | exact Le.of rfl))) h
def zJ.L0 (k:Nat):LFn:=⟨zJ.h0,zJ.o0,fun x=>zJ.l0 k x.1 x.2.1 x.2.2.1 x.2.2.2.1 x.2.2.2.2⟩
theorem zJ.r0 (k:Nat) (x:Tup (sigTys zJ.h0)):roundK T0 (zJ.env k) 58 116 [] zJ.C (loopOf Tryz.f108 0) 0 zJ.h0 zJ.o0 (zJ.L0 k).f x=(zJ.L0 (k + 1)).f x:=by kernel_rfl
theorem zJ.s0 (k:Nat):LoopSound P0 G0 58 116 (sigPins zJ.hd) (zJ.L0 k) (loopOf Tryz.f108 0):=loop_rounds (T:=T0) hm0 hT0 (env:=fun k=>(zJ.env k)) (nh:=116) (pn:=sigPins zJ.hd) (L:=fun k=>[]) (C:=zJ.C) (by kernel_rfl) (hd:=zJ.h0) (os:=zJ.o0) (by kernel_rfl) (by kernel_rfl) (by kernel_rfl) (g:=fun k=>(zJ.L0 k).f) (fun k=>loops_in zJ.d trivial) (fun _=>rfl) (fun k x=>zJ.r0 k x) k
def zJ.b (c0:LI→Option Int) (c1:LI→Option LI) (c2:LI→Int→Option LI) (c3:Bool→LI→LI→LI→Int→Option (Bool × LI × LI)) (a0:LI) (a1:LI):Option (LI × LI × Bool):=(Option.bind (c0 a1) fun y3=>(bif (y3 == (0:Int)) then (some (([]:LI),(([]:LI),false))) else (Option.bind (c1 a0) fun y4=>(Option.bind (c0 a0) fun y5=>(Option.bind (c0 a1) fun y6=>(bif (decide (((0:Int) ≤ (IntKind.wrap .i64 ((IntKind.wrap .i64 (Int.tdiv (mxI (0:Int) (IntKind.wrap .i64 (y5 - y6))) (32:Int))) + (1:Int))))∧(((IntKind.wrap .i64 ((IntKind.wrap .i64 (Int.tdiv (mxI (0:Int) (IntKind.wrap .i64 (y5 - y6))) (32:Int))) + (1:Int))) ≤ (IntKind.wrap .i64 ((IntKind.wrap .i64 (Int.tdiv (mxI (0:Int) (IntKind.wrap .i64 (y5 - y6))) (32:Int))) + (1:Int))))∧((IntKind.wrap .i64 ((IntKind.wrap .i64 (Int.tdiv (mxI (0:Int) (IntKind.wrap .i64 (y5 - y6))) (32:Int))) + (1:Int))) ≤ ((68719476736:Nat):Int))))) then (Option.bind (c2 a1 (mxI (0:Int) (IntKind.wrap .i64 (y5 - y6)))) fun y7=>(Option.bind (c3 (Ty.zero (.pair .bool .unit)).1 (y4,((List.replicate (Int.toNat (IntKind.wrap .i64 ((IntKind.wrap .i64 (Int.tdiv (mxI (0:Int) (IntKind.wrap .i64 (y5 - y6))) (32:Int))) + (1:Int)))) (0:Int)),(y7,(mxI (0:Int) (IntKind.wrap .i64 (y5 - y6)))))).1 (y4,((List.replicate (Int.toNat (IntKind.wrap .i64 ((IntKind.wrap .i64 (Int.tdiv (mxI (0:Int) (IntKind.wrap .i64 (y5 - y6))) (32:Int))) + (1:Int)))) (0:Int)),(y7,(mxI (0:Int) (IntKind.wrap .i64 (y5 - y6)))))).2.1 (y4,((List.replicate (Int.toNat (IntKind.wrap .i64 ((IntKind.wrap .i64 (Int.tdiv (mxI (0:Int) (IntKind.wrap .i64 (y5 - y6))) (32:Int))) + (1:Int)))) (0:Int)),(y7,(mxI (0:Int) (IntKind.wrap .i64 (y5 - y6)))))).2.2.1 (y4,((List.replicate (Int.toNat (IntKind.wrap .i64 ((IntKind.wrap .i64 (Int.tdiv (mxI (0:Int) (IntKind.wrap .i64 (y5 - y6))) (32:Int))) + (1:Int)))) (0:Int)),(y7,(mxI (0:Int) (IntKind.wrap .i64 (y5 - y6)))))).2.2.2) fun y8=>(Option.bind (c1 y8.2.2) fun y9=>(some (y9,(y8.2.1,true)))))) else none))))))
def zJ.f (k:Nat) a0 a1:=zJ.b (zG.f k) (zj.f k) (zY.f k) (zJ.l0 k) a0 a1
noncomputable def zJ.V a0 a1:=lim fun k=>zJ.f k a0 a1
theorem zJ.v a0 a1 {y} (h:zJ.b zG.V zj.V zY.V zJ.V0 a0 a1=some y):zJ.V a0 a1=some y:=Le.v (by unfold zJ.f zJ.b;repeat (first | with_reducible first | exact Le.const | refine Le.bind ?_ fun _=>?_ | refine Le.cond ?_ ?_ | refine Le.elim (fun _=>?_) fun _=>?_ | exact Le.of rfl)) h
theorem zJ.e (k:Nat) (x:Tup (sigTys zJ.hd)):fnK T0 (zJ.env k) [⟨0,zJ.L0 k⟩] zJ.C Tryz.f108 2 116 zJ.hd zJ.os x=zJ.f k x.1 x.2:=by kernel_rfl
def zJ.fn (k:Nat):Kn P0 G0:=⟨108,2,116,zJ.hd,1,zJ.os,fun x=>zJ.f k x.1 x.2,contract (T:=T0) (fn:=Tryz.f108) hm0 hT0 (by kernel_rfl) (by kernel_rfl) (L:=[⟨0,zJ.L0 k⟩]) (C:=zJ.C) (by kernel_rfl) (by decide) rfl (by kernel_rfl) (loops_fn zJ.d ⟨zJ.s0 k,trivial⟩) (zJ.e k),none⟩
def zP.hd:Sig:=[⟨false,0,(.imm (.list (.int .u32)))⟩,⟨false,1,(.imm (.list (.int .u32)))⟩]
def zP.os:List Sig:=[[⟨false,0,(.own 8 false 111 (.int .u32))⟩]]
def zP.h0:Sig:=[⟨false,5,(.own 8 false 111 (.int .u32))⟩,⟨false,6,(.own 10 false 111 (.int .u32))⟩]
def zP.o0:Outs:=[((.exit 0),[⟨false,5,(.own 8 false 111 (.int .u32))⟩])]
def zP.C:List CutAt:=[]
def zP.env (k:Nat):List (Kn P0 G0):=[zj.fn k,zJ.fn k]
theorem zP.d:distN (loopIds (Tryz.f72.body.getD .skip) 0)=true:=by kernel_rfl
def zP.b0 (c0:LI→LI→Option (LI × LI × Bool)) (c1:LI→LI→Option LI) (x0:LI) (x1:LI):Option LI:=(bif (decide ((((List.length x1):Nat):Int) > (0:Int))) then (Option.bind (c0 x0 x1) fun y4=>(c1 x1 y4.2.1)) else (some x0))
def zP.l0:Nat→LI→LI→Option LI
 | 0,_,_=>none
 | k + 1,x0,x1=>zP.b0 (zJ.f k) (zP.l0 k) x0 x1
noncomputable def zP.V0 x0 x1:=lim fun k=>zP.l0 k x0 x1
theorem zP.v0 x0 x1 {y} (h:zP.b0 zJ.V zP.V0 x0 x1=some y):zP.V0 x0 x1=some y:=Le.v (.succ (by unfold zP.l0 zP.b0;repeat (first | with_reducible first | exact Le.const | refine Le.bind ?_ fun _=>?_ | refine Le.cond ?_ ?_ | refine Le.elim (fun _=>?_) fun _=>?_ | exact Le.of rfl))) h
def zP.L0 (k:Nat):LFn:=⟨zP.h0,zP.o0,fun x=>zP.l0 k x.1 x.2⟩
theorem zP.r0 (k:Nat) (x:Tup (sigTys zP.h0)):roundK T0 (zP.env k) 20 40 [] zP.C (loopOf Tryz.f72 0) 0 zP.h0 zP.o0 (zP.L0 k).f x=(zP.L0 (k + 1)).f x:=by kernel_rfl
theorem zP.s0 (k:Nat):LoopSound P0 G0 20 40 (sigPins zP.hd) (zP.L0 k) (loopOf Tryz.f72 0):=loop_rounds (T:=T0) hm0 hT0 (env:=fun k=>(zP.env k)) (nh:=40) (pn:=sigPins zP.hd) (L:=fun k=>[]) (C:=zP.C) (by kernel_rfl) (hd:=zP.h0) (os:=zP.o0) (by kernel_rfl) (by kernel_rfl) (by kernel_rfl) (g:=fun k=>(zP.L0 k).f) (fun k=>loops_in zP.d trivial) (fun _=>rfl) (fun k x=>zP.r0 k x) k
def zP.b (c0:LI→Option LI) (c1:LI→LI→Option LI) (a0:LI) (a1:LI):Option LI:=(Option.bind (c0 a0) fun y3=>(Option.bind (c0 a1) fun y4=>(Option.bind (c1 y3 y4) fun y5=>(some y5))))
def zP.f (k:Nat) a0 a1:=zP.b (zj.f k) (zP.l0 k) a0 a1
noncomputable def zP.V a0 a1:=lim fun k=>zP.f k a0 a1
theorem zP.v a0 a1 {y} (h:zP.b zj.V zP.V0 a0 a1=some y):zP.V a0 a1=some y:=Le.v (by unfold zP.f zP.b;repeat (first | with_reducible first | exact Le.const | refine Le.bind ?_ fun _=>?_ | refine Le.cond ?_ ?_ | refine Le.elim (fun _=>?_) fun _=>?_ | exact Le.of rfl)) h
theorem zP.e (k:Nat) (x:Tup (sigTys zP.hd)):fnK T0 (zP.env k) [⟨0,zP.L0 k⟩] zP.C Tryz.f72 2 40 zP.hd zP.os x=zP.f k x.1 x.2:=by kernel_rfl
def zP.fn (k:Nat):Kn P0 G0:=⟨72,2,40,zP.hd,1,zP.os,fun x=>zP.f k x.1 x.2,contract (T:=T0) (fn:=Tryz.f72) hm0 hT0 (by kernel_rfl) (by kernel_rfl) (L:=[⟨0,zP.L0 k⟩]) (C:=zP.C) (by kernel_rfl) (by decide) rfl (by kernel_rfl) (loops_fn zP.d ⟨zP.s0 k,trivial⟩) (zP.e k),none⟩
def yj.hd:Sig:=[⟨false,0,(.imm api_Rat)⟩]
def yj.os:List Sig:=[[⟨false,0,(.imm .bool)⟩]]
def yj.C:List CutAt:=[⟨1000001,[(.normal,[⟨true,1,(.imm api_Rat)⟩,⟨false,1,(.ptr 1 [] api_Rat)⟩,⟨false,45,(.imm .bool)⟩])]⟩]
def yj.env (k:Nat):List (Kn P0 G0):=[xm.fn,zP.fn k]
theorem yj.d:distN (loopIds (Tryz.f35.body.getD .skip) 0)=true:=by kernel_rfl
def yj.b (c0:LI→LI→Option LI) (a0:RA):Option Bool:=(Option.bind (Option.bind (xm.f a0.1.2.1) fun y2=>(bif (!y2) then (some (a0,true)) else (Option.bind (xm.f a0.2.1) fun y3=>(bif (!y3) then (some (a0,true)) else (bif ((((List.length a0.2.1):Nat):Int) == (0:Int)) then (some (a0,true)) else (bif a0.1.1 then (bif ((((List.length a0.1.2.1):Nat):Int) == (0:Int)) then (some (a0,true)) else (bif (decide ((((List.length a0.1.2.1):Nat):Int) > (64:Int))) then (some (a0,true)) else (some (a0,(decide ((((List.length a0.2.1):Nat):Int) > (64:Int))))))) else (bif (decide ((((List.length a0.1.2.1):Nat):Int) > (64:Int))) then (some (a0,true)) else (some (a0,(decide ((((List.length a0.2.1):Nat):Int) > (64:Int)))))))))))) fun y2=>(bif y2.2 then (some false) else (Option.bind (c0 y2.1.1.2.1 y2.1.2.1) fun y3=>(bif ((((List.length y3):Nat):Int) == (1:Int)) then (bif (decide (((0:Int) ≤ (0:Int))∧((0:Int) < (((List.length y3):Nat):Int)))) then (some ((rdL (0:Int) y3 (0:Int)) == (1:Int))) else none) else (some false)))))
def yj.f (k:Nat) a0:=yj.b (zP.f k) a0
noncomputable def yj.V a0:=lim fun k=>yj.f k a0
theorem yj.v a0 {y} (h:yj.b zP.V a0=some y):yj.V a0=some y:=Le.v (by unfold yj.f yj.b;repeat (first | with_reducible first | exact Le.const | refine Le.bind ?_ fun _=>?_ | refine Le.cond ?_ ?_ | refine Le.elim (fun _=>?_) fun _=>?_ | exact Le.of rfl)) h
theorem yj.e (k:Nat) (x:Tup (sigTys yj.hd)):fnK T0 (yj.env k) [] yj.C Tryz.f35 1 122 yj.hd yj.os x=yj.f k x:=by kernel_rfl
def yj.fn (k:Nat):Kn P0 G0:=⟨35,1,122,yj.hd,1,yj.os,fun x=>yj.f k x,contract (T:=T0) (fn:=Tryz.f35) hm0 hT0 (by kernel_rfl) (by kernel_rfl) (L:=[]) (C:=yj.C) (by kernel_rfl) (by decide) rfl (by kernel_rfl) (loops_fn yj.d trivial) (yj.e k),none⟩
def yA.hd:Sig:=[⟨false,0,(.imm api_Int)⟩]
def yA.os:List Sig:=[[⟨false,0,(.agg api_Int (.acons (.imm .bool) (.acons (.own 7 false 111 (.int .u32)) .anil)))⟩]]
def yA.C:List CutAt:=[]
def yA.env (k:Nat):List (Kn P0 G0):=[zZ.fn k]
theorem yA.d:distN (loopIds (Tryz.f160.body.getD .skip) 0)=true:=by kernel_rfl
def yA.b (c0:Bool→LI→Option (Bool × LI)) (a0:WH):Option (Bool × LI):=(Option.bind (c0 a0.1 a0.2.1) fun y2=>(some (y2.1,y2.2)))
def yA.f (k:Nat) a0:=yA.b (zZ.f k) a0
noncomputable def yA.V a0:=lim fun k=>yA.f k a0
theorem yA.v a0 {y} (h:yA.b zZ.V a0=some y):yA.V a0=some y:=Le.v (by unfold yA.f yA.b;repeat (first | with_reducible first | exact Le.const | refine Le.bind ?_ fun _=>?_ | refine Le.cond ?_ ?_ | refine Le.elim (fun _=>?_) fun _=>?_ | exact Le.of rfl)) h
theorem yA.e (k:Nat) (x:Tup (sigTys yA.hd)):fnK T0 (yA.env k) [] yA.C Tryz.f160 1 16 yA.hd yA.os x=yA.f k x:=by kernel_rfl
def yA.fn (k:Nat):Kn P0 G0:=⟨160,1,16,yA.hd,1,yA.os,fun x=>yA.f k x,contract (T:=T0) (fn:=Tryz.f160) hm0 hT0 (by kernel_rfl) (by kernel_rfl) (L:=[]) (C:=yA.C) (by kernel_rfl) (by decide) rfl (by kernel_rfl) (loops_fn yA.d trivial) (yA.e k),none⟩
def zB.hd:Sig:=[⟨false,0,(.imm (.list (.int .u32)))⟩,⟨false,1,(.imm (.int .u32))⟩]
def zB.os:List Sig:=[[⟨false,0,(.own 36 false 111 (.int .u32))⟩]]
def zB.h0:Sig:=[⟨false,0,(.imm (.list (.int .u32)))⟩,⟨false,1,(.imm (.int .u32))⟩,⟨false,5,(.own 28 false 111 (.int .u32))⟩,⟨false,6,(.imm (.int .u64))⟩,⟨false,7,(.imm (.int .i64))⟩]
def zB.o0:Outs:=[((.exit 0),[⟨false,5,(.own 28 false 111 (.int .u32))⟩,⟨false,6,(.imm (.int .u64))⟩])]
def zB.C:List CutAt:=[]
def zB.env (k:Nat):List (Kn P0 G0):=[zj.fn k]
theorem zB.d:distN (loopIds (Tryz.f162.body.getD .skip) 0)=true:=by kernel_rfl
def zB.b0 (c0:LI→Int→LI→Int→Int→Option (LI × Int)) (x0:LI) (x1:Int) (x2:LI) (x3:Int) (x4:Int):Option (LI × Int):=(bif (decide (x4 < (((List.length x0):Nat):Int))) then (bif (decide (((0:Int) ≤ x4)∧(x4 < (((List.length x0):Nat):Int)))) then (bif (decide (((List.length x2) + (List.length ((IntKind.wrap .u32 (IntKind.wrap .u64 (x3 + (IntKind.wrap .u64 ((IntKind.wrap .u64 (rdL (0:Int) x0 x4)) * (IntKind.wrap .u64 x1)))))) :: ([]:LI)))) ≤ 68719476736)) then (c0 x0 x1 (x2 ++ ((IntKind.wrap .u32 (IntKind.wrap .u64 (x3 + (IntKind.wrap .u64 ((IntKind.wrap .u64 (rdL (0:Int) x0 x4)) * (IntKind.wrap .u64 x1)))))) :: ([]:LI))) (shrI .u64 (IntKind.wrap .u64 (x3 + (IntKind.wrap .u64 ((IntKind.wrap .u64 (rdL (0:Int) x0 x4)) * (IntKind.wrap .u64 x1))))) (32:Int)) (IntKind.wrap .i64 (x4 + (1:Int)))) else none) else none) else (some (x2,x3)))
def zB.l0:Nat→LI→Int→LI→Int→Int→Option (LI × Int)
 | 0,_,_,_,_,_=>none
 | k + 1,x0,x1,x2,x3,x4=>zB.b0 (zB.l0 k) x0 x1 x2 x3 x4
noncomputable def zB.V0 x0 x1 x2 x3 x4:=lim fun k=>zB.l0 k x0 x1 x2 x3 x4
theorem zB.v0 x0 x1 x2 x3 x4 {y} (h:zB.b0 zB.V0 x0 x1 x2 x3 x4=some y):zB.V0 x0 x1 x2 x3 x4=some y:=Le.v (.succ (by unfold zB.l0 zB.b0;repeat (first | with_reducible first | exact Le.const | refine Le.bind ?_ fun _=>?_ | refine Le.cond ?_ ?_ | refine Le.elim (fun _=>?_) fun _=>?_ | exact Le.of rfl))) h
def zB.L0 (k:Nat):LFn:=⟨zB.h0,zB.o0,fun x=>zB.l0 k x.1 x.2.1 x.2.2.1 x.2.2.2.1 x.2.2.2.2⟩
theorem zB.r0 (k:Nat) (x:Tup (sigTys zB.h0)):roundK T0 (zB.env k) 37 74 [] zB.C (loopOf Tryz.f162 0) 0 zB.h0 zB.o0 (zB.L0 k).f x=(zB.L0 (k + 1)).f x:=by kernel_rfl
theorem zB.s0 (k:Nat):LoopSound P0 G0 37 74 (sigPins zB.hd) (zB.L0 k) (loopOf Tryz.f162 0):=loop_rounds (T:=T0) hm0 hT0 (env:=fun k=>(zB.env k)) (nh:=74) (pn:=sigPins zB.hd) (L:=fun k=>[]) (C:=zB.C) (by kernel_rfl) (hd:=zB.h0) (os:=zB.o0) (by kernel_rfl) (by kernel_rfl) (by kernel_rfl) (g:=fun k=>(zB.L0 k).f) (fun k=>loops_in zB.d trivial) (fun _=>rfl) (fun k x=>zB.r0 k x) k
def zB.b (c0:LI→Int→LI→Int→Int→Option (LI × Int)) (c1:LI→Option LI) (a0:LI) (a1:Int):Option LI:=(Option.bind (c0 a0 (a1,(([]:LI),((0:Int),(0:Int)))).1 (a1,(([]:LI),((0:Int),(0:Int)))).2.1 (a1,(([]:LI),((0:Int),(0:Int)))).2.2.1 (a1,(([]:LI),((0:Int),(0:Int)))).2.2.2) fun y3=>(bif (decide (((List.length y3.1) + (List.length ((IntKind.wrap .u32 y3.2) :: ([]:LI)))) ≤ 68719476736)) then (Option.bind (c1 (y3.1 ++ ((IntKind.wrap .u32 y3.2) :: ([]:LI)))) fun y4=>(some y4)) else none))
def zB.f (k:Nat) a0 a1:=zB.b (zB.l0 k) (zj.f k) a0 a1
noncomputable def zB.V a0 a1:=lim fun k=>zB.f k a0 a1
theorem zB.v a0 a1 {y} (h:zB.b zB.V0 zj.V a0 a1=some y):zB.V a0 a1=some y:=Le.v (by unfold zB.f zB.b;repeat (first | with_reducible first | exact Le.const | refine Le.bind ?_ fun _=>?_ | refine Le.cond ?_ ?_ | refine Le.elim (fun _=>?_) fun _=>?_ | exact Le.of rfl)) h
theorem zB.e (k:Nat) (x:Tup (sigTys zB.hd)):fnK T0 (zB.env k) [⟨0,zB.L0 k⟩] zB.C Tryz.f162 2 74 zB.hd zB.os x=zB.f k x.1 x.2:=by kernel_rfl
def zB.fn (k:Nat):Kn P0 G0:=⟨162,2,74,zB.hd,1,zB.os,fun x=>zB.f k x.1 x.2,contract (T:=T0) (fn:=Tryz.f162) hm0 hT0 (by kernel_rfl) (by kernel_rfl) (L:=[⟨0,zB.L0 k⟩]) (C:=zB.C) (by kernel_rfl) (by decide) rfl (by kernel_rfl) (loops_fn zB.d ⟨zB.s0 k,trivial⟩) (zB.e k),none⟩
def zK.hd:Sig:=[⟨false,0,(.imm (.list (.int .u32)))⟩,⟨false,1,(.imm (.list (.int .u32)))⟩]
def zK.os:List Sig:=[[⟨false,0,(.own 41 false 111 (.int .u32))⟩]]
def zK.h0:Sig:=[⟨false,0,(.imm (.list (.int .u32)))⟩,⟨false,1,(.imm (.list (.int .u32)))⟩,⟨false,5,(.own 37 false 111 (.int .u32))⟩,⟨false,6,(.imm (.int .u64))⟩,⟨false,7,(.imm (.int .i64))⟩]
def zK.o0:Outs:=[((.exit 0),[⟨false,5,(.own 37 false 111 (.int .u32))⟩])]
def zK.C:List CutAt:=[⟨1000004,[(.normal,[⟨false,0,(.imm (.list (.int .u32)))⟩,⟨false,1,(.imm (.list (.int .u32)))⟩,⟨false,5,(.own 37 false 111 (.int .u32))⟩,⟨false,6,(.imm (.int .u64))⟩,⟨false,7,(.imm (.int .i64))⟩,⟨false,21,(.imm .bool)⟩])]⟩]
def zK.env (k:Nat):List (Kn P0 G0):=[xG.fn,zj.fn k]
theorem zK.d:distN (loopIds (Tryz.f161.body.getD .skip) 0)=true:=by kernel_rfl
def zK.b0 (c0:LI→LI→LI→Int→Int→Option LI) (x0:LI) (x1:LI) (x2:LI) (x3:Int) (x4:Int):Option LI:=(Option.bind (bif (decide (x4 < (((List.length x0):Nat):Int))) then (some (x0,(x1,(x2,(x3,(x4,true)))))) else (bif (decide (x4 < (((List.length x1):Nat):Int))) then (some (x0,(x1,(x2,(x3,(x4,true)))))) else (some (x0,(x1,(x2,(x3,(x4,(decide (x3 > (0:Int))))))))))) fun y7=>(bif y7.2.2.2.2.2 then (Option.bind (xG.f y7.1 y7.2.2.2.2.1) fun y8=>(Option.bind (xG.f y7.2.1 y7.2.2.2.2.1) fun y9=>(bif (decide (((List.length y7.2.2.1) + (List.length ((IntKind.wrap .u32 (IntKind.wrap .u64 (y7.2.2.2.1 + (IntKind.wrap .u64 (y8 + y9))))) :: ([]:LI)))) ≤ 68719476736)) then (c0 y7.1 y7.2.1 (y7.2.2.1 ++ ((IntKind.wrap .u32 (IntKind.wrap .u64 (y7.2.2.2.1 + (IntKind.wrap .u64 (y8 + y9))))) :: ([]:LI))) (shrI .u64 (IntKind.wrap .u64 (y7.2.2.2.1 + (IntKind.wrap .u64 (y8 + y9)))) (32:Int)) (IntKind.wrap .i64 (y7.2.2.2.2.1 + (1:Int)))) else none))) else (some y7.2.2.1)))
def zK.l0:Nat→LI→LI→LI→Int→Int→Option LI
 | 0,_,_,_,_,_=>none
 | k + 1,x0,x1,x2,x3,x4=>zK.b0 (zK.l0 k) x0 x1 x2 x3 x4
noncomputable def zK.V0 x0 x1 x2 x3 x4:=lim fun k=>zK.l0 k x0 x1 x2 x3 x4
theorem zK.v0 x0 x1 x2 x3 x4 {y} (h:zK.b0 zK.V0 x0 x1 x2 x3 x4=some y):zK.V0 x0 x1 x2 x3 x4=some y:=Le.v (.succ (by unfold zK.l0 zK.b0;repeat (first | with_reducible first | exact Le.const | refine Le.bind ?_ fun _=>?_ | refine Le.cond ?_ ?_ | refine Le.elim (fun _=>?_) fun _=>?_ | exact Le.of rfl))) h
def zK.L0 (k:Nat):LFn:=⟨zK.h0,zK.o0,fun x=>zK.l0 k x.1 x.2.1 x.2.2.1 x.2.2.2.1 x.2.2.2.2⟩
theorem zK.r0 (k:Nat) (x:Tup (sigTys zK.h0)):roundK T0 (zK.env k) 42 84 [] zK.C (loopOf Tryz.f161 0) 0 zK.h0 zK.o0 (zK.L0 k).f x=(zK.L0 (k + 1)).f x:=by kernel_rfl
theorem zK.s0 (k:Nat):LoopSound P0 G0 42 84 (sigPins zK.hd) (zK.L0 k) (loopOf Tryz.f161 0):=loop_rounds (T:=T0) hm0 hT0 (env:=fun k=>(zK.env k)) (nh:=84) (pn:=sigPins zK.hd) (L:=fun k=>[]) (C:=zK.C) (by kernel_rfl) (hd:=zK.h0) (os:=zK.o0) (by kernel_rfl) (by kernel_rfl) (by kernel_rfl) (g:=fun k=>(zK.L0 k).f) (fun k=>loops_in zK.d trivial) (fun _=>rfl) (fun k x=>zK.r0 k x) k
def zK.b (c0:LI→LI→LI→Int→Int→Option LI) (c1:LI→Option LI) (a0:LI) (a1:LI):Option LI:=(Option.bind (c0 a0 (a1,(([]:LI),((0:Int),(0:Int)))).1 (a1,(([]:LI),((0:Int),(0:Int)))).2.1 (a1,(([]:LI),((0:Int),(0:Int)))).2.2.1 (a1,(([]:LI),((0:Int),(0:Int)))).2.2.2) fun y3=>(Option.bind (c1 y3) fun y4=>(some y4)))
def zK.f (k:Nat) a0 a1:=zK.b (zK.l0 k) (zj.f k) a0 a1
noncomputable def zK.V a0 a1:=lim fun k=>zK.f k a0 a1
theorem zK.v a0 a1 {y} (h:zK.b zK.V0 zj.V a0 a1=some y):zK.V a0 a1=some y:=Le.v (by unfold zK.f zK.b;repeat (first | with_reducible first | exact Le.const | refine Le.bind ?_ fun _=>?_ | refine Le.cond ?_ ?_ | refine Le.elim (fun _=>?_) fun _=>?_ | exact Le.of rfl)) h
theorem zK.e (k:Nat) (x:Tup (sigTys zK.hd)):fnK T0 (zK.env k) [⟨0,zK.L0 k⟩] zK.C Tryz.f161 2 84 zK.hd zK.os x=zK.f k x.1 x.2:=by kernel_rfl
def zK.fn (k:Nat):Kn P0 G0:=⟨161,2,84,zK.hd,1,zK.os,fun x=>zK.f k x.1 x.2,contract (T:=T0) (fn:=Tryz.f161) hm0 hT0 (by kernel_rfl) (by kernel_rfl) (L:=[⟨0,zK.L0 k⟩]) (C:=zK.C) (by kernel_rfl) (by decide) rfl (by kernel_rfl) (loops_fn zK.d ⟨zK.s0 k,trivial⟩) (zK.e k),none⟩
def zL.hd:Sig:=[⟨false,0,(.imm (.list (.int .u32)))⟩,⟨false,1,(.imm (.list (.int .u32)))⟩]
def zL.os:List Sig:=[[⟨false,0,(.own 25 false 111 (.int .u32))⟩]]
def zL.h0:Sig:=[⟨false,0,(.imm (.list (.int .u32)))⟩,⟨false,1,(.imm (.list (.int .u32)))⟩,⟨false,5,(.own 23 false 111 (.int .u32))⟩,⟨false,6,(.imm (.int .i64))⟩]
def zL.o0:Outs:=[((.exit 0),[⟨false,5,(.own 23 false 111 (.int .u32))⟩])]
def zL.C:List CutAt:=[]
def zL.env (k:Nat):List (Kn P0 G0):=[zB.fn k,zY.fn k,zK.fn k,zj.fn k]
theorem zL.d:distN (loopIds (Tryz.f130.body.getD .skip) 0)=true:=by kernel_rfl
def zL.b0 (c0:LI→Int→Option LI) (c1:LI→Int→Option LI) (c2:LI→LI→Option LI) (c3:LI→LI→LI→Int→Option LI) (x0:LI) (x1:LI) (x2:LI) (x3:Int):Option LI:=(bif (decide (x3 < (((List.length x1):Nat):Int))) then (bif (decide (((0:Int) ≤ x3)∧(x3 < (((List.length x1):Nat):Int)))) then (Option.bind (c0 x0 (rdL (0:Int) x1 x3)) fun y6=>(Option.bind (c1 y6 (IntKind.wrap .i64 ((32:Int) * x3))) fun y7=>(Option.bind (c2 x2 y7) fun y8=>(c3 x0 x1 y8 (IntKind.wrap .i64 (x3 + (1:Int))))))) else none) else (some x2))
def zL.l0:Nat→LI→LI→LI→Int→Option LI
 | 0,_,_,_,_=>none
 | k + 1,x0,x1,x2,x3=>zL.b0 (zB.f k) (zY.f k) (zK.f k) (zL.l0 k) x0 x1 x2 x3
noncomputable def zL.V0 x0 x1 x2 x3:=lim fun k=>zL.l0 k x0 x1 x2 x3
theorem zL.v0 x0 x1 x2 x3 {y} (h:zL.b0 zB.V zY.V zK.V zL.V0 x0 x1 x2 x3=some y):zL.V0 x0 x1 x2 x3=some y:=Le.v (.succ (by unfold zL.l0 zL.b0;repeat (first | with_reducible first | exact Le.const | refine Le.bind ?_ fun _=>?_ | refine Le.cond ?_ ?_ | refine Le.elim (fun _=>?_) fun _=>?_ | exact Le.of rfl))) h
def zL.L0 (k:Nat):LFn:=⟨zL.h0,zL.o0,fun x=>zL.l0 k x.1 x.2.1 x.2.2.1 x.2.2.2⟩
theorem zL.r0 (k:Nat) (x:Tup (sigTys zL.h0)):roundK T0 (zL.env k) 26 52 [] zL.C (loopOf Tryz.f130 0) 0 zL.h0 zL.o0 (zL.L0 k).f x=(zL.L0 (k + 1)).f x:=by kernel_rfl
theorem zL.s0 (k:Nat):LoopSound P0 G0 26 52 (sigPins zL.hd) (zL.L0 k) (loopOf Tryz.f130 0):=loop_rounds (T:=T0) hm0 hT0 (env:=fun k=>(zL.env k)) (nh:=52) (pn:=sigPins zL.hd) (L:=fun k=>[]) (C:=zL.C) (by kernel_rfl) (hd:=zL.h0) (os:=zL.o0) (by kernel_rfl) (by kernel_rfl) (by kernel_rfl) (g:=fun k=>(zL.L0 k).f) (fun k=>loops_in zL.d trivial) (fun _=>rfl) (fun k x=>zL.r0 k x) k
def zL.b (c0:LI→LI→LI→Int→Option LI) (c1:LI→Option LI) (a0:LI) (a1:LI):Option LI:=(Option.bind (c0 a0 (a1,(([]:LI),(0:Int))).1 (a1,(([]:LI),(0:Int))).2.1 (a1,(([]:LI),(0:Int))).2.2) fun y3=>(Option.bind (c1 y3) fun y4=>(some y4)))
def zL.f (k:Nat) a0 a1:=zL.b (zL.l0 k) (zj.f k) a0 a1
noncomputable def zL.V a0 a1:=lim fun k=>zL.f k a0 a1
theorem zL.v a0 a1 {y} (h:zL.b zL.V0 zj.V a0 a1=some y):zL.V a0 a1=some y:=Le.v (by unfold zL.f zL.b;repeat (first | with_reducible first | exact Le.const | refine Le.bind ?_ fun _=>?_ | refine Le.cond ?_ ?_ | refine Le.elim (fun _=>?_) fun _=>?_ | exact Le.of rfl)) h
theorem zL.e (k:Nat) (x:Tup (sigTys zL.hd)):fnK T0 (zL.env k) [⟨0,zL.L0 k⟩] zL.C Tryz.f130 2 52 zL.hd zL.os x=zL.f k x.1 x.2:=by kernel_rfl
def zL.fn (k:Nat):Kn P0 G0:=⟨130,2,52,zL.hd,1,zL.os,fun x=>zL.f k x.1 x.2,contract (T:=T0) (fn:=Tryz.f130) hm0 hT0 (by kernel_rfl) (by kernel_rfl) (L:=[⟨0,zL.L0 k⟩]) (C:=zL.C) (by kernel_rfl) (by decide) rfl (by kernel_rfl) (loops_fn zL.d ⟨zL.s0 k,trivial⟩) (zL.e k),none⟩
def yE.hd:Sig:=[⟨false,0,(.imm api_Int)⟩,⟨false,1,(.imm api_Int)⟩]
def yE.os:List Sig:=[[⟨false,0,(.agg api_Int (.acons (.imm .bool) (.acons (.own 17 false 111 (.int .u32)) .anil)))⟩]]
def yE.C:List CutAt:=[]
def yE.env (k:Nat):List (Kn P0 G0):=[yA.fn k,zL.fn k,zZ.fn k]
theorem yE.d:distN (loopIds (Tryz.f129.body.getD .skip) 0)=true:=by kernel_rfl
def yE.b (c0:WH→Option (Bool × LI)) (c1:LI→LI→Option LI) (c2:Bool→LI→Option (Bool × LI)) (a0:WH) (a1:WH):Option (Bool × LI):=(Option.bind (c0 a0) fun y3=>(Option.bind (c0 a1) fun y4=>(Option.bind (c1 a0.2.1 a1.2.1) fun y5=>(Option.bind (c2 (!(y3.1 == y4.1)) y5) fun y6=>(some (y6.1,y6.2))))))
def yE.f (k:Nat) a0 a1:=yE.b (yA.f k) (zL.f k) (zZ.f k) a0 a1
noncomputable def yE.V a0 a1:=lim fun k=>yE.f k a0 a1
theorem yE.v a0 a1 {y} (h:yE.b yA.V zL.V zZ.V a0 a1=some y):yE.V a0 a1=some y:=Le.v (by unfold yE.f yE.b;repeat (first | with_reducible first | exact Le.const | refine Le.bind ?_ fun _=>?_ | refine Le.cond ?_ ?_ | refine Le.elim (fun _=>?_) fun _=>?_ | exact Le.of rfl)) h
theorem yE.e (k:Nat) (x:Tup (sigTys yE.hd)):fnK T0 (yE.env k) [] yE.C Tryz.f129 2 36 yE.hd yE.os x=yE.f k x.1 x.2:=by kernel_rfl
def yE.fn (k:Nat):Kn P0 G0:=⟨129,2,36,yE.hd,1,yE.os,fun x=>yE.f k x.1 x.2,contract (T:=T0) (fn:=Tryz.f129) hm0 hT0 (by kernel_rfl) (by kernel_rfl) (L:=[]) (C:=yE.C) (by kernel_rfl) (by decide) rfl (by kernel_rfl) (loops_fn yE.d trivial) (yE.e k),none⟩
def yF.hd:Sig:=[⟨false,0,(.imm api_Int)⟩,⟨false,1,(.imm (.list (.int .u32)))⟩]
def yF.os:List Sig:=[[⟨false,0,(.agg api_Rat (.acons (.agg api_Int (.acons (.imm .bool) (.acons (.own 20 false 111 (.int .u32)) .anil))) (.acons (.own 49 false 111 (.int .u32)) .anil)))⟩]]
def yF.C:List CutAt:=[]
def yF.env (k:Nat):List (Kn P0 G0):=[yA.fn k,zP.fn k,zJ.fn k,zZ.fn k]
theorem yF.d:distN (loopIds (Tryz.f128.body.getD .skip) 0)=true:=by kernel_rfl
def yF.b (c0:WH→Option (Bool × LI)) (c1:LI→LI→Option LI) (c2:LI→LI→Option (LI × LI × Bool)) (c3:Bool→LI→Option (Bool × LI)) (a0:WH) (a1:LI):Option (Bool × LI × LI):=(Option.bind (c0 a0) fun y3=>(Option.bind (c1 y3.2 a1) fun y4=>(Option.bind (c2 y3.2 y4) fun y5=>(Option.bind (c3 y3.1 y5.1) fun y6=>(Option.bind (c2 a1 y4) fun y7=>(some (y6.1,(y6.2,y7.1))))))))
def yF.f (k:Nat) a0 a1:=yF.b (yA.f k) (zP.f k) (zJ.f k) (zZ.f k) a0 a1
noncomputable def yF.V a0 a1:=lim fun k=>yF.f k a0 a1
theorem yF.v a0 a1 {y} (h:yF.b yA.V zP.V zJ.V zZ.V a0 a1=some y):yF.V a0 a1=some y:=Le.v (by unfold yF.f yF.b;repeat (first | with_reducible first | exact Le.const | refine Le.bind ?_ fun _=>?_ | refine Le.cond ?_ ?_ | refine Le.elim (fun _=>?_) fun _=>?_ | exact Le.of rfl)) h
theorem yF.e (k:Nat) (x:Tup (sigTys yF.hd)):fnK T0 (yF.env k) [] yF.C Tryz.f128 2 52 yF.hd yF.os x=yF.f k x.1 x.2:=by kernel_rfl
def yF.fn (k:Nat):Kn P0 G0:=⟨128,2,52,yF.hd,1,yF.os,fun x=>yF.f k x.1 x.2,contract (T:=T0) (fn:=Tryz.f128) hm0 hT0 (by kernel_rfl) (by kernel_rfl) (L:=[]) (C:=yF.C) (by kernel_rfl) (by decide) rfl (by kernel_rfl) (loops_fn yF.d trivial) (yF.e k),none⟩
def yC.hd:Sig:=[⟨false,0,(.imm api_Rat)⟩,⟨false,1,(.imm api_Rat)⟩]
def yC.os:List Sig:=[[⟨false,0,(.agg api_Rat (.acons (.agg api_Int (.acons (.imm .bool) (.acons (.own 31 false 111 (.int .u32)) .anil))) (.acons (.own 15 false 111 (.int .u32)) .anil)))⟩]]
def yC.C:List CutAt:=[]
def yC.env (k:Nat):List (Kn P0 G0):=[yE.fn k,zL.fn k,yF.fn k]
theorem yC.d:distN (loopIds (Tryz.f92.body.getD .skip) 0)=true:=by kernel_rfl
def yC.b (c0:WH→WH→Option (Bool × LI)) (c1:LI→LI→Option LI) (c2:WH→LI→Option (Bool × LI × LI)) (a0:RA) (a1:RA):Option (Bool × LI × LI):=(Option.bind (c0 a0.1 a1.1) fun y3=>(Option.bind (c1 a0.2.1 a1.2.1) fun y4=>(Option.bind (c2 (y3.1,(y3.2,())) y4) fun y5=>(some (y5.1,(y5.2.1,y5.2.2))))))
def yC.f (k:Nat) a0 a1:=yC.b (yE.f k) (zL.f k) (yF.f k) a0 a1
noncomputable def yC.V a0 a1:=lim fun k=>yC.f k a0 a1
theorem yC.v a0 a1 {y} (h:yC.b yE.V zL.V yF.V a0 a1=some y):yC.V a0 a1=some y:=Le.v (by unfold yC.f yC.b;repeat (first | with_reducible first | exact Le.const | refine Le.bind ?_ fun _=>?_ | refine Le.cond ?_ ?_ | refine Le.elim (fun _=>?_) fun _=>?_ | exact Le.of rfl)) h
theorem yC.e (k:Nat) (x:Tup (sigTys yC.hd)):fnK T0 (yC.env k) [] yC.C Tryz.f92 2 32 yC.hd yC.os x=yC.f k x.1 x.2:=by kernel_rfl
def yC.fn (k:Nat):Kn P0 G0:=⟨92,2,32,yC.hd,1,yC.os,fun x=>yC.f k x.1 x.2,contract (T:=T0) (fn:=Tryz.f92) hm0 hT0 (by kernel_rfl) (by kernel_rfl) (L:=[]) (C:=yC.C) (by kernel_rfl) (by decide) rfl (by kernel_rfl) (loops_fn yC.d trivial) (yC.e k),none⟩
def xl.hd:Sig:=[⟨false,0,(.imm api_Rat)⟩]
def xl.os:List Sig:=[[⟨false,0,(.agg ref07_Got (.acons (.agg api_Rat (.acons (.agg api_Int (.acons (.imm .bool) (.acons (.imm (.list (.int .u32))) .anil))) (.acons (.imm (.list (.int .u32))) .anil))) (.acons (.imm (.int .i64)) .anil)))⟩]]
def xl.C:List CutAt:=[]
def xl.env:List (Kn P0 G0):=[]
theorem xl.d:distN (loopIds (Tryz.f91.body.getD .skip) 0)=true:=by kernel_rfl
def xl.f (a0:RA):Option (Bool × LI × LI × Int):=(bif (decide ((((List.length a0.1.2.1):Nat):Int) > (64:Int))) then (some (false,(([]:LI),(([]:LI),(2:Int))))) else (bif (decide ((((List.length a0.2.1):Nat):Int) > (64:Int))) then (some (false,(([]:LI),(([]:LI),(2:Int))))) else (some (a0.1.1,(a0.1.2.1,(a0.2.1,((0:Int),()).1))))))
theorem xl.e (x:Tup (sigTys xl.hd)):fnK T0 xl.env [] xl.C Tryz.f91 1 34 xl.hd xl.os x=xl.f x:=by kernel_rfl
def xl.fn:Kn P0 G0:=⟨91,1,34,xl.hd,1,xl.os,fun x=>xl.f x,contract (T:=T0) (fn:=Tryz.f91) hm0 hT0 (by kernel_rfl) (by kernel_rfl) (L:=[]) (C:=xl.C) (by kernel_rfl) (by decide) rfl (by kernel_rfl) (loops_fn xl.d trivial) (xl.e),none⟩
def yI.hd:Sig:=[⟨false,0,(.imm api_Rat)⟩,⟨false,1,(.imm api_Rat)⟩]
def yI.os:List Sig:=[[⟨false,0,(.agg ref07_Got (.acons (.agg api_Rat (.acons (.agg api_Int (.acons (.imm .bool) (.acons (.imm (.list (.int .u32))) .anil))) (.acons (.imm (.list (.int .u32))) .anil))) (.acons (.imm (.int .i64)) .anil)))⟩]]
def yI.C:List CutAt:=[]
def yI.env (k:Nat):List (Kn P0 G0):=[yj.fn k,zZ.fn k,yC.fn k,xl.fn]
theorem yI.d:distN (loopIds (Tryz.f46.body.getD .skip) 0)=true:=by kernel_rfl
def yI.b (c0:RA→Option Bool) (c1:Bool→LI→Option (Bool × LI)) (c2:RA→RA→Option (Bool × LI × LI)) (a0:RA) (a1:RA):Option (Bool × LI × LI × Int):=(Option.bind (c0 a0) fun y3=>(bif (!y3) then (some (false,(([]:LI),(([]:LI),(1:Int))))) else (Option.bind (c0 a1) fun y4=>(bif (!y4) then (some (false,(([]:LI),(([]:LI),(1:Int))))) else (bif ((((List.length a1.1.2.1):Nat):Int) == (0:Int)) then (some (false,(([]:LI),(([]:LI),(3:Int))))) else (Option.bind (c1 a1.1.1 a1.2.1) fun y5=>(Option.bind (c2 a0 ((y5.1,(y5.2,())),(a1.1.2.1,()))) fun y6=>(Option.bind (xl.f ((y6.1,(y6.2.1,())),(y6.2.2,()))) fun y7=>(some (y7.1,(y7.2.1,(y7.2.2.1,y7.2.2.2))))))))))))
def yI.f (k:Nat) a0 a1:=yI.b (yj.f k) (zZ.f k) (yC.f k) a0 a1
noncomputable def yI.V a0 a1:=lim fun k=>yI.f k a0 a1
theorem yI.v a0 a1 {y} (h:yI.b yj.V zZ.V yC.V a0 a1=some y):yI.V a0 a1=some y:=Le.v (by unfold yI.f yI.b;repeat (first | with_reducible first | exact Le.const | refine Le.bind ?_ fun _=>?_ | refine Le.cond ?_ ?_ | refine Le.elim (fun _=>?_) fun _=>?_ | exact Le.of rfl)) h
theorem yI.e (k:Nat) (x:Tup (sigTys yI.hd)):fnK T0 (yI.env k) [] yI.C Tryz.f46 2 66 yI.hd yI.os x=yI.f k x.1 x.2:=by kernel_rfl
def yI.fn (k:Nat):Kn P0 G0:=⟨46,2,66,yI.hd,1,yI.os,fun x=>yI.f k x.1 x.2,contract (T:=T0) (fn:=Tryz.f46) hm0 hT0 (by kernel_rfl) (by kernel_rfl) (L:=[]) (C:=yI.C) (by kernel_rfl) (by decide) rfl (by kernel_rfl) (loops_fn yI.d trivial) (yI.e k),none⟩
def xi.hd:Sig:=[⟨false,0,(.imm (.int .i64))⟩,⟨false,1,(.imm (.int .i64))⟩]
def xi.os:List Sig:=[[⟨false,0,(.agg api_Rat (.acons (.agg api_Int (.acons (.imm .bool) (.acons (.imm (.list (.int .u32))) .anil))) (.acons (.imm (.list (.int .u32))) .anil)))⟩]]
def xi.C:List CutAt:=[]
def xi.env (k:Nat):List (Kn P0 G0):=[yp.fn k,yI.fn k]
theorem xi.d:distN (loopIds (Tryz.f24.body.getD .skip) 0)=true:=by kernel_rfl
def xi.b (c0:Int→Option (Bool × LI × LI)) (c1:RA→RA→Option (Bool × LI × LI × Int)) (a0:Int) (a1:Int):Option (Bool × LI × LI):=(Option.bind (c0 a0) fun y3=>(Option.bind (c0 a1) fun y4=>(Option.bind (c1 ((y3.1,(y3.2.1,())),(y3.2.2,())) ((y4.1,(y4.2.1,())),(y4.2.2,()))) fun y5=>(some (y5.1,(y5.2.1,y5.2.2.1))))))
def xi.f (k:Nat) a0 a1:=xi.b (yp.f k) (yI.f k) a0 a1
noncomputable def xi.V a0 a1:=lim fun k=>xi.f k a0 a1
theorem xi.v a0 a1 {y} (h:xi.b yp.V yI.V a0 a1=some y):xi.V a0 a1=some y:=Le.v (by unfold xi.f xi.b;repeat (first | with_reducible first | exact Le.const | refine Le.bind ?_ fun _=>?_ | refine Le.cond ?_ ?_ | refine Le.elim (fun _=>?_) fun _=>?_ | exact Le.of rfl)) h
theorem xi.e (k:Nat) (x:Tup (sigTys xi.hd)):fnK T0 (xi.env k) [] xi.C Tryz.f24 2 26 xi.hd xi.os x=xi.f k x.1 x.2:=by kernel_rfl
def xi.fn (k:Nat):Kn P0 G0:=⟨24,2,26,xi.hd,1,xi.os,fun x=>xi.f k x.1 x.2,contract (T:=T0) (fn:=Tryz.f24) hm0 hT0 (by kernel_rfl) (by kernel_rfl) (L:=[]) (C:=xi.C) (by kernel_rfl) (by decide) rfl (by kernel_rfl) (loops_fn xi.d trivial) (xi.e k),none⟩
def xQ.hd:Sig:=[⟨false,0,(.imm (.int .i64))⟩]
def xQ.os:List Sig:=[[⟨false,0,(.agg api_Term (.acons (.imm (.int .i64)) (.acons (.imm (.int .i64)) (.acons (.imm (.int .i64)) (.acons (.imm (.int .i64)) (.acons (.agg api_Rat (.acons (.agg api_Int (.acons (.imm .bool) (.acons (.imm (.list (.int .u32))) .anil))) (.acons (.imm (.list (.int .u32))) .anil))) .anil))))))⟩]]
def xQ.C:List CutAt:=[]
def xQ.env (k:Nat):List (Kn P0 G0):=[xi.fn k]
theorem xQ.d:distN (loopIds (Tryz.f23.body.getD .skip) 0)=true:=by kernel_rfl
def xQ.b (c0:Int→Int→Option (Bool × LI × LI)) (a0:Int):Option (Int × Int × Int × Int × Bool × LI × LI):=(Option.bind (c0 a0 (1:Int)) fun y2=>(some ((1:Int),((0:Int),((0:Int),((0:Int),(y2.1,(y2.2.1,y2.2.2))))))))
def xQ.f (k:Nat) a0:=xQ.b (xi.f k) a0
theorem xQ.e (k:Nat) (x:Tup (sigTys xQ.hd)):fnK T0 (xQ.env k) [] xQ.C Tryz.f23 1 12 xQ.hd xQ.os x=xQ.f k x:=by kernel_rfl
def xQ.fn (k:Nat):Kn P0 G0:=⟨23,1,12,xQ.hd,1,xQ.os,fun x=>xQ.f k x,contract (T:=T0) (fn:=Tryz.f23) hm0 hT0 (by kernel_rfl) (by kernel_rfl) (L:=[]) (C:=xQ.C) (by kernel_rfl) (by decide) rfl (by kernel_rfl) (loops_fn xQ.d trivial) (xQ.e k),none⟩
def yU.hd:Sig:=[⟨true,22,(.imm (.int .i64))⟩,⟨false,0,(.imm (.int .i64))⟩,⟨false,1,(.ptr 22 [] (.int .i64))⟩]
def yU.os:List Sig:=[[⟨true,22,(.imm (.int .i64))⟩,⟨false,0,(.imm .bool)⟩]]
def yU.C:List CutAt:=[]
def yU.env:List (Kn P0 G0):=[]
theorem yU.d:distN (loopIds (Tryz.f132.body.getD .skip) 0)=true:=by kernel_rfl
def yU.f (a0:Int) (a1:Int):Option (Int × Bool):=(bif (decide (a1 ≥ (0:Int))) then (some (a0,(decide (a1 < a0)))) else (some (a0,false)))
theorem yU.e (x:Tup (sigTys yU.hd)):fnK T0 yU.env [] yU.C Tryz.f132 2 23 yU.hd yU.os x=yU.f x.1 x.2:=by kernel_rfl
def yU.fn:Kn P0 G0:=⟨132,2,23,yU.hd,1,yU.os,fun x=>yU.f x.1 x.2,contract (T:=T0) (fn:=Tryz.f132) hm0 hT0 (by kernel_rfl) (by kernel_rfl) (L:=[]) (C:=yU.C) (by kernel_rfl) (by decide) rfl (by kernel_rfl) (loops_fn yU.d trivial) (yU.e),none⟩
def xE.hd:Sig:=[⟨false,0,(.imm (.list (.int .u32)))⟩]
def xE.os:List Sig:=[[⟨false,0,(.imm .bool)⟩]]
def xE.C:List CutAt:=[]
def xE.env:List (Kn P0 G0):=[]
theorem xE.d:distN (loopIds (Tryz.f109.body.getD .skip) 0)=true:=by kernel_rfl
def xE.f (a0:LI):Option Bool:=(bif ((((List.length a0):Nat):Int) == (0:Int)) then (some true) else (bif (decide (((0:Int) ≤ (IntKind.wrap .i64 ((((List.length a0):Nat):Int) - (1:Int))))∧((IntKind.wrap .i64 ((((List.length a0):Nat):Int) - (1:Int))) < (((List.length a0):Nat):Int)))) then (some ((rdL (0:Int) a0 (IntKind.wrap .i64 ((((List.length a0):Nat):Int) - (1:Int)))) != (0:Int))) else none))
theorem xE.e (x:Tup (sigTys xE.hd)):fnK T0 xE.env [] xE.C Tryz.f109 1 30 xE.hd xE.os x=xE.f x:=by kernel_rfl
def xE.fn:Kn P0 G0:=⟨109,1,30,xE.hd,1,xE.os,fun x=>xE.f x,contract (T:=T0) (fn:=Tryz.f109) hm0 hT0 (by kernel_rfl) (by kernel_rfl) (L:=[]) (C:=xE.C) (by kernel_rfl) (by decide) rfl (by kernel_rfl) (loops_fn xE.d trivial) (xE.e),none⟩
def zT.hd:Sig:=[⟨false,0,(.imm (.list (.int .u32)))⟩]
def zT.os:List Sig:=[[⟨false,0,(.imm (.int .i64))⟩]]
def zT.h0:Sig:=[⟨false,0,(.imm (.list (.int .u32)))⟩,⟨false,3,(.imm (.int .i64))⟩]
def zT.o0:Outs:=[((.exit 0),[⟨false,3,(.imm (.int .i64))⟩])]
def zT.C:List CutAt:=[]
def zT.env (k:Nat):List (Kn P0 G0):=[]
theorem zT.d:distN (loopIds (Tryz.f147.body.getD .skip) 0)=true:=by kernel_rfl
def zT.b0 (c0:LI→Int→Option Int) (x0:LI) (x1:Int):Option Int:=(bif (decide (x1 > (0:Int))) then (bif (decide (((0:Int) ≤ (IntKind.wrap .i64 (x1 - (1:Int))))∧((IntKind.wrap .i64 (x1 - (1:Int))) < (((List.length x0):Nat):Int)))) then (bif ((rdL (0:Int) x0 (IntKind.wrap .i64 (x1 - (1:Int)))) == (0:Int)) then (c0 x0 (IntKind.wrap .i64 (x1 - (1:Int)))) else (some x1)) else none) else (some x1))
def zT.l0:Nat→LI→Int→Option Int
 | 0,_,_=>none
 | k + 1,x0,x1=>zT.b0 (zT.l0 k) x0 x1
noncomputable def zT.V0 x0 x1:=lim fun k=>zT.l0 k x0 x1
theorem zT.v0 x0 x1 {y} (h:zT.b0 zT.V0 x0 x1=some y):zT.V0 x0 x1=some y:=Le.v (.succ (by unfold zT.l0 zT.b0;repeat (first | with_reducible first | exact Le.const | refine Le.bind ?_ fun _=>?_ | refine Le.cond ?_ ?_ | refine Le.elim (fun _=>?_) fun _=>?_ | exact Le.of rfl))) h
def zT.L0 (k:Nat):LFn:=⟨zT.h0,zT.o0,fun x=>zT.l0 k x.1 x.2⟩
theorem zT.r0 (k:Nat) (x:Tup (sigTys zT.h0)):roundK T0 (zT.env k) 19 38 [] zT.C (loopOf Tryz.f147 0) 0 zT.h0 zT.o0 (zT.L0 k).f x=(zT.L0 (k + 1)).f x:=by kernel_rfl
theorem zT.s0 (k:Nat):LoopSound P0 G0 19 38 (sigPins zT.hd) (zT.L0 k) (loopOf Tryz.f147 0):=loop_rounds (T:=T0) hm0 hT0 (env:=fun k=>(zT.env k)) (nh:=38) (pn:=sigPins zT.hd) (L:=fun k=>[]) (C:=zT.C) (by kernel_rfl) (hd:=zT.h0) (os:=zT.o0) (by kernel_rfl) (by kernel_rfl) (by kernel_rfl) (g:=fun k=>(zT.L0 k).f) (fun k=>loops_in zT.d trivial) (fun _=>rfl) (fun k x=>zT.r0 k x) k
def zT.b (c0:LI→Int→Option Int) (a0:LI):Option Int:=(Option.bind (c0 a0 (((List.length a0):Nat):Int)) fun y2=>(some y2))
def zT.f (k:Nat) a0:=zT.b (zT.l0 k) a0
noncomputable def zT.V a0:=lim fun k=>zT.f k a0
theorem zT.v a0 {y} (h:zT.b zT.V0 a0=some y):zT.V a0=some y:=Le.v (by unfold zT.f zT.b;repeat (first | with_reducible first | exact Le.const | refine Le.bind ?_ fun _=>?_ | refine Le.cond ?_ ?_ | refine Le.elim (fun _=>?_) fun _=>?_ | exact Le.of rfl)) h
theorem zT.e (k:Nat) (x:Tup (sigTys zT.hd)):fnK T0 (zT.env k) [⟨0,zT.L0 k⟩] zT.C Tryz.f147 1 38 zT.hd zT.os x=zT.f k x:=by kernel_rfl
def zT.fn (k:Nat):Kn P0 G0:=⟨147,1,38,zT.hd,1,zT.os,fun x=>zT.f k x,contract (T:=T0) (fn:=Tryz.f147) hm0 hT0 (by kernel_rfl) (by kernel_rfl) (L:=[⟨0,zT.L0 k⟩]) (C:=zT.C) (by kernel_rfl) (by decide) rfl (by kernel_rfl) (loops_fn zT.d ⟨zT.s0 k,trivial⟩) (zT.e k),none⟩
def yo.hd:Sig:=[⟨false,0,(.imm (.list (.int .u32)))⟩]
def yo.os:List Sig:=[[⟨false,0,(.own 6 false 111 (.int .u32))⟩]]
def yo.C:List CutAt:=[]
def yo.env (k:Nat):List (Kn P0 G0):=[zT.fn k]
theorem yo.d:distN (loopIds (Tryz.f150.body.getD .skip) 0)=true:=by kernel_rfl
def yo.b (c0:LI→Option Int) (a0:LI):Option LI:=(Option.bind (c0 a0) fun y2=>(bif (decide (((0:Int) ≤ y2)∧((y2 ≤ y2)∧(y2 ≤ ((68719476736:Nat):Int))))) then (some (copyL a0 (List.replicate (Int.toNat y2) (0:Int)))) else none))
def yo.f (k:Nat) a0:=yo.b (zT.f k) a0
noncomputable def yo.V a0:=lim fun k=>yo.f k a0
theorem yo.v a0 {y} (h:yo.b zT.V a0=some y):yo.V a0=some y:=Le.v (by unfold yo.f yo.b;repeat (first | with_reducible first | exact Le.const | refine Le.bind ?_ fun _=>?_ | refine Le.cond ?_ ?_ | refine Le.elim (fun _=>?_) fun _=>?_ | exact Le.of rfl)) h
theorem yo.e (k:Nat) (x:Tup (sigTys yo.hd)):fnK T0 (yo.env k) [] yo.C Tryz.f150 1 22 yo.hd yo.os x=yo.f k x:=by kernel_rfl
def yo.fn (k:Nat):Kn P0 G0:=⟨150,1,22,yo.hd,1,yo.os,fun x=>yo.f k x,contract (T:=T0) (fn:=Tryz.f150) hm0 hT0 (by kernel_rfl) (by kernel_rfl) (L:=[]) (C:=yo.C) (by kernel_rfl) (by decide) rfl (by kernel_rfl) (loops_fn yo.d trivial) (yo.e k),none⟩
def yJ.hd:Sig:=[⟨false,0,(.imm (.int .u32))⟩]
def yJ.os:List Sig:=[[⟨false,0,(.imm (.int .i64))⟩]]
def yJ.C:List CutAt:=[⟨7,[(.normal,[⟨false,0,(.imm (.int .u32))⟩,⟨false,2,(.imm (.int .i64))⟩])]⟩,⟨4,[(.normal,[⟨false,0,(.imm (.int .u32))⟩,⟨false,2,(.imm (.int .i64))⟩])]⟩]
def yJ.env:List (Kn P0 G0):=[]
theorem yJ.d:distN (loopIds (Tryz.f178.body.getD .skip) 0)=true:=by kernel_rfl
def yJ.f (a0:Int):Option Int:=(Option.bind (bif (decide (a0 ≥ (65536:Int))) then (some ((shrI .u32 a0 (16:Int)),(16:Int))) else (some (a0,(0:Int)))) fun y1=>(Option.bind (bif (decide (y1.1 ≥ (256:Int))) then (some ((shrI .u32 y1.1 (8:Int)),(IntKind.wrap .i64 (y1.2 + (8:Int))))) else (some (y1.1,y1.2))) fun y2=>(bif (decide (((0:Int) ≤ (IntKind.wrap .u8 y2.1))∧((IntKind.wrap .u8 y2.1) < (((ByteArray.size (ByteArray.mk #[0,1,2,2,3,3,3,3,4,4,4,4,4,4,4,4,5,5,5,5,5,5,5,5,5,5,5,5,5,5,5,5,6,6,6,6,6,6,6,6,6,6,6,6,6,6,6,6,6,6,6,6,6,6,6,6,6,6,6,6,6,6,6,6,7,7,7,7,7,7,7,7,7,7,7,7,7,7,7,7,7,7,7,7,7,7,7,7,7,7,7,7,7,7,7,7,7,7,7,7,7,7,7,7,7,7,7,7,7,7,7,7,7,7,7,7,7,7,7,7,7,7,7,7,7,7,7,7,8,8,8,8,8,8,8,8,8,8,8,8,8,8,8,8,8,8,8,8,8,8,8,8,8,8,8,8,8,8,8,8,8,8,8,8,8,8,8,8,8,8,8,8,8,8,8,8,8,8,8,8,8,8,8,8,8,8,8,8,8,8,8,8,8,8,8,8,8,8,8,8,8,8,8,8,8,8,8,8,8,8,8,8,8,8,8,8,8,8,8,8,8,8,8,8,8,8,8,8,8,8,8,8,8,8,8,8,8,8,8,8,8,8,8,8,8,8,8,8,8,8,8,8,8,8,8,8])):Nat):Int)))) then (some (IntKind.wrap .i64 (y2.2 + (IntKind.wrap .i64 (bAt (ByteArray.mk #[0,1,2,2,3,3,3,3,4,4,4,4,4,4,4,4,5,5,5,5,5,5,5,5,5,5,5,5,5,5,5,5,6,6,6,6,6,6,6,6,6,6,6,6,6,6,6,6,6,6,6,6,6,6,6,6,6,6,6,6,6,6,6,6,7,7,7,7,7,7,7,7,7,7,7,7,7,7,7,7,7,7,7,7,7,7,7,7,7,7,7,7,7,7,7,7,7,7,7,7,7,7,7,7,7,7,7,7,7,7,7,7,7,7,7,7,7,7,7,7,7,7,7,7,7,7,7,7,8,8,8,8,8,8,8,8,8,8,8,8,8,8,8,8,8,8,8,8,8,8,8,8,8,8,8,8,8,8,8,8,8,8,8,8,8,8,8,8,8,8,8,8,8,8,8,8,8,8,8,8,8,8,8,8,8,8,8,8,8,8,8,8,8,8,8,8,8,8,8,8,8,8,8,8,8,8,8,8,8,8,8,8,8,8,8,8,8,8,8,8,8,8,8,8,8,8,8,8,8,8,8,8,8,8,8,8,8,8,8,8,8,8,8,8,8,8,8,8,8,8,8,8,8,8,8,8]) (IntKind.wrap .u8 y2.1)))))) else none)))
theorem yJ.e (x:Tup (sigTys yJ.hd)):fnK T0 yJ.env [] yJ.C Tryz.f178 1 38 yJ.hd yJ.os x=yJ.f x:=by kernel_rfl
def yJ.fn:Kn P0 G0:=⟨178,1,38,yJ.hd,1,yJ.os,fun x=>yJ.f x,contract (T:=T0) (fn:=Tryz.f178) hm0 hT0 (by kernel_rfl) (by kernel_rfl) (L:=[]) (C:=yJ.C) (by kernel_rfl) (by decide) rfl (by kernel_rfl) (loops_fn yJ.d trivial) (yJ.e),none⟩
def yr.hd:Sig:=[⟨false,0,(.imm (.int .u32))⟩]
def yr.os:List Sig:=[[⟨false,0,(.imm (.int .i64))⟩]]
def yr.C:List CutAt:=[]
def yr.env:List (Kn P0 G0):=[yJ.fn]
theorem yr.d:distN (loopIds (Tryz.f171.body.getD .skip) 0)=true:=by kernel_rfl
def yr.f (a0:Int):Option Int:=(Option.bind (yJ.f a0) fun y1=>(some (IntKind.wrap .i64 ((32:Int) - y1))))
theorem yr.e (x:Tup (sigTys yr.hd)):fnK T0 yr.env [] yr.C Tryz.f171 1 12 yr.hd yr.os x=yr.f x:=by kernel_rfl
def yr.fn:Kn P0 G0:=⟨171,1,12,yr.hd,1,yr.os,fun x=>yr.f x,contract (T:=T0) (fn:=Tryz.f171) hm0 hT0 (by kernel_rfl) (by kernel_rfl) (L:=[]) (C:=yr.C) (by kernel_rfl) (by decide) rfl (by kernel_rfl) (loops_fn yr.d trivial) (yr.e),none⟩
def zA.hd:Sig:=[⟨false,0,(.imm (.list (.int .u32)))⟩,⟨false,1,(.imm (.list (.int .u32)))⟩]
def zA.os:List Sig:=[[⟨false,0,(.own 78 false 111 (.int .u32))⟩]]
def zA.h0:Sig:=[⟨false,1,(.own 14 false 111 (.int .u32))⟩,⟨false,5,(.own 20 false 111 (.int .u32))⟩,⟨false,6,(.imm (.int .i64))⟩,⟨false,7,(.imm (.int .u32))⟩,⟨false,8,(.own 31 false 111 (.int .u32))⟩,⟨false,9,(.imm (.int .u64))⟩,⟨false,21,(.own 12 false 111 (.int .u32))⟩,⟨false,22,(.imm (.int .i64))⟩,⟨false,23,(.imm (.int .i64))⟩,⟨false,38,(.imm (.int .i64))⟩,⟨false,39,(.imm (.int .i64))⟩]
def zA.o0:Outs:=[((.exit 2),[⟨false,1,(.own 14 false 111 (.int .u32))⟩,⟨false,5,(.own 20 false 111 (.int .u32))⟩,⟨false,6,(.imm (.int .i64))⟩,⟨false,8,(.own 31 false 111 (.int .u32))⟩,⟨false,21,(.own 12 false 111 (.int .u32))⟩,⟨false,22,(.imm (.int .i64))⟩,⟨false,23,(.imm (.int .i64))⟩])]
def zA.h1:Sig:=[⟨false,1,(.own 14 false 111 (.int .u32))⟩,⟨false,5,(.own 20 false 111 (.int .u32))⟩,⟨false,21,(.own 12 false 111 (.int .u32))⟩,⟨false,22,(.imm (.int .i64))⟩,⟨false,23,(.imm (.int .i64))⟩]
def zA.o1:Outs:=[((.exit 0),[⟨false,5,(.own 20 false 111 (.int .u32))⟩])]
def zA.C:List CutAt:=[⟨14,[(.normal,[⟨false,1,(.own 14 false 111 (.int .u32))⟩,⟨false,5,(.own 20 false 111 (.int .u32))⟩,⟨false,6,(.imm (.int .i64))⟩,⟨false,7,(.imm (.int .u32))⟩,⟨false,8,(.own 31 false 111 (.int .u32))⟩,⟨false,9,(.imm (.int .u64))⟩,⟨false,10,(.imm (.int .i64))⟩,⟨false,21,(.own 12 false 111 (.int .u32))⟩,⟨false,22,(.imm (.int .i64))⟩,⟨false,23,(.imm (.int .i64))⟩,⟨false,38,(.imm (.int .i64))⟩,⟨false,39,(.imm (.int .i64))⟩])]⟩]
def zA.env (k:Nat):List (Kn P0 G0):=[yo.fn k]
theorem zA.d:distN (loopIds (Tryz.f117.body.getD .skip) 0)=true:=by kernel_rfl
def zA.b0 (c0:LI→LI→Int→Int→LI→Int→LI→Int→Int→Int→Int→Option (LI × LI × Int × LI × LI × Int × Int)) (x0:LI) (x1:LI) (x2:Int) (x3:Int) (x4:LI) (x5:Int) (x6:LI) (x7:Int) (x8:Int) (x9:Int) (x10:Int):Option (LI × LI × Int × LI × LI × Int × Int):=(bif (decide (x10 < x9)) then (Option.bind (bif (decide (x10 < (((List.length x0):Nat):Int))) then (bif (decide (((0:Int) ≤ x10)∧(x10 < (((List.length x0):Nat):Int)))) then (some (x0,(x1,(x2,(x3,(x4,((IntKind.wrap .u64 (x5 + (IntKind.wrap .u64 ((IntKind.wrap .u64 x3) * (IntKind.wrap .u64 (rdL (0:Int) x0 x10)))))),(x10,(x6,(x7,(x8,(x9,x10)))))))))))) else none) else (some (x0,(x1,(x2,(x3,(x4,(x5,(x10,(x6,(x7,(x8,(x9,x10))))))))))))) fun y13=>(bif (decide (((0:Int) ≤ y13.2.2.2.2.2.2.1)∧(y13.2.2.2.2.2.2.1 < (((List.length y13.2.2.2.2.1):Nat):Int)))) then (bif (decide (((0:Int) ≤ y13.2.2.2.2.2.2.1)∧(y13.2.2.2.2.2.2.1 < (((List.length y13.2.2.2.2.1):Nat):Int)))) then (c0 y13.1 y13.2.1 y13.2.2.1 y13.2.2.2.1 (List.set y13.2.2.2.2.1 (Int.toNat y13.2.2.2.2.2.2.1) (IntKind.wrap .u32 (IntKind.wrap .u64 (y13.2.2.2.2.2.1 + (IntKind.wrap .u64 (rdL (0:Int) y13.2.2.2.2.1 y13.2.2.2.2.2.2.1)))))) (shrI .u64 (IntKind.wrap .u64 (y13.2.2.2.2.2.1 + (IntKind.wrap .u64 (rdL (0:Int) y13.2.2.2.2.1 y13.2.2.2.2.2.2.1)))) (32:Int)) y13.2.2.2.2.2.2.2.1 y13.2.2.2.2.2.2.2.2.1 y13.2.2.2.2.2.2.2.2.2.1 y13.2.2.2.2.2.2.2.2.2.2.1 (IntKind.wrap .i64 (y13.2.2.2.2.2.2.2.2.2.2.2 + (1:Int)))) else none) else none)) else (some (x0,(x1,(x2,(x4,(x6,(x7,x8))))))))
def zA.l0:Nat→LI→LI→Int→Int→LI→Int→LI→Int→Int→Int→Int→Option (LI × LI × Int × LI × LI × Int × Int)
 | 0,_,_,_,_,_,_,_,_,_,_,_=>none
 | k + 1,x0,x1,x2,x3,x4,x5,x6,x7,x8,x9,x10=>zA.b0 (zA.l0 k) x0 x1 x2 x3 x4 x5 x6 x7 x8 x9 x10
noncomputable def zA.V0 x0 x1 x2 x3 x4 x5 x6 x7 x8 x9 x10:=lim fun k=>zA.l0 k x0 x1 x2 x3 x4 x5 x6 x7 x8 x9 x10
theorem zA.v0 x0 x1 x2 x3 x4 x5 x6 x7 x8 x9 x10 {y} (h:zA.b0 zA.V0 x0 x1 x2 x3 x4 x5 x6 x7 x8 x9 x10=some y):zA.V0 x0 x1 x2 x3 x4 x5 x6 x7 x8 x9 x10=some y:=Le.v (.succ (by unfold zA.l0 zA.b0;repeat (first | with_reducible first | exact Le.const | refine Le.bind ?_ fun _=>?_ | refine Le.cond ?_ ?_ | refine Le.elim (fun _=>?_) fun _=>?_ | exact Le.of rfl))) h
def zA.L0 (k:Nat):LFn:=⟨zA.h0,zA.o0,fun x=>zA.l0 k x.1 x.2.1 x.2.2.1 x.2.2.2.1 x.2.2.2.2.1 x.2.2.2.2.2.1 x.2.2.2.2.2.2.1 x.2.2.2.2.2.2.2.1 x.2.2.2.2.2.2.2.2.1 x.2.2.2.2.2.2.2.2.2.1 x.2.2.2.2.2.2.2.2.2.2⟩
theorem zA.r0 (k:Nat) (x:Tup (sigTys zA.h0)):roundK T0 (zA.env k) 79 158 [] zA.C (loopOf Tryz.f117 2) 2 zA.h0 zA.o0 (zA.L0 k).f x=(zA.L0 (k + 1)).f x:=by kernel_rfl
theorem zA.s0 (k:Nat):LoopSound P0 G0 79 158 (sigPins zA.hd) (zA.L0 k) (loopOf Tryz.f117 2):=loop_rounds (T:=T0) hm0 hT0 (env:=fun k=>(zA.env k)) (nh:=158) (pn:=sigPins zA.hd) (L:=fun k=>[]) (C:=zA.C) (by kernel_rfl) (hd:=zA.h0) (os:=zA.o0) (by kernel_rfl) (by kernel_rfl) (by kernel_rfl) (g:=fun k=>(zA.L0 k).f) (fun k=>loops_in zA.d trivial) (fun _=>rfl) (fun k x=>zA.r0 k x) k
def zA.b1 (c0:LI→LI→Int→Int→LI→Int→LI→Int→Int→Int→Int→Option (LI × LI × Int × LI × LI × Int × Int)) (c1:LI→LI→LI→Int→Int→Option LI) (x0:LI) (x1:LI) (x2:LI) (x3:Int) (x4:Int):Option LI:=(bif (decide (x4 < x3)) then (bif (decide (((0:Int) ≤ x4)∧(x4 < (((List.length x2):Nat):Int)))) then (bif (decide (((0:Int) ≤ (IntKind.wrap .i64 ((((List.length x0):Nat):Int) + (1:Int))))∧(((IntKind.wrap .i64 ((((List.length x0):Nat):Int) + (1:Int))) ≤ (IntKind.wrap .i64 ((((List.length x0):Nat):Int) + (1:Int))))∧((IntKind.wrap .i64 ((((List.length x0):Nat):Int) + (1:Int))) ≤ ((68719476736:Nat):Int))))) then (bif (decide (((0:Int) ≤ x4)∧(x4 ≤ (((List.length x1):Nat):Int)))) then (Option.bind (c0 x0 (x1,(x4,((rdL (0:Int) x2 x4),((copyL (List.drop (Int.toNat x4) (List.take ((Int.toNat x4) + (Int.toNat ((((List.length x1):Nat):Int) - x4))) x1)) (List.replicate (Int.toNat (IntKind.wrap .i64 ((((List.length x0):Nat):Int) + (1:Int)))) (0:Int))),((0:Int),(x2,(x3,(x4,((((List.length (copyL (List.drop (Int.toNat x4) (List.take ((Int.toNat x4) + (Int.toNat ((((List.length x1):Nat):Int) - x4))) x1)) (List.replicate (Int.toNat (IntKind.wrap .i64 ((((List.length x0):Nat):Int) + (1:Int)))) (0:Int)))):Nat):Int),(0:Int)))))))))).1 (x1,(x4,((rdL (0:Int) x2 x4),((copyL (List.drop (Int.toNat x4) (List.take ((Int.toNat x4) + (Int.toNat ((((List.length x1):Nat):Int) - x4))) x1)) (List.replicate (Int.toNat (IntKind.wrap .i64 ((((List.length x0):Nat):Int) + (1:Int)))) (0:Int))),((0:Int),(x2,(x3,(x4,((((List.length (copyL (List.drop (Int.toNat x4) (List.take ((Int.toNat x4) + (Int.toNat ((((List.length x1):Nat):Int) - x4))) x1)) (List.replicate (Int.toNat (IntKind.wrap .i64 ((((List.length x0):Nat):Int) + (1:Int)))) (0:Int)))):Nat):Int),(0:Int)))))))))).2.1 (x1,(x4,((rdL (0:Int) x2 x4),((copyL (List.drop (Int.toNat x4) (List.take ((Int.toNat x4) + (Int.toNat ((((List.length x1):Nat):Int) - x4))) x1)) (List.replicate (Int.toNat (IntKind.wrap .i64 ((((List.length x0):Nat):Int) + (1:Int)))) (0:Int))),((0:Int),(x2,(x3,(x4,((((List.length (copyL (List.drop (Int.toNat x4) (List.take ((Int.toNat x4) + (Int.toNat ((((List.length x1):Nat):Int) - x4))) x1)) (List.replicate (Int.toNat (IntKind.wrap .i64 ((((List.length x0):Nat):Int) + (1:Int)))) (0:Int)))):Nat):Int),(0:Int)))))))))).2.2.1 (x1,(x4,((rdL (0:Int) x2 x4),((copyL (List.drop (Int.toNat x4) (List.take ((Int.toNat x4) + (Int.toNat ((((List.length x1):Nat):Int) - x4))) x1)) (List.replicate (Int.toNat (IntKind.wrap .i64 ((((List.length x0):Nat):Int) + (1:Int)))) (0:Int))),((0:Int),(x2,(x3,(x4,((((List.length (copyL (List.drop (Int.toNat x4) (List.take ((Int.toNat x4) + (Int.toNat ((((List.length x1):Nat):Int) - x4))) x1)) (List.replicate (Int.toNat (IntKind.wrap .i64 ((((List.length x0):Nat):Int) + (1:Int)))) (0:Int)))):Nat):Int),(0:Int)))))))))).2.2.2.1 (x1,(x4,((rdL (0:Int) x2 x4),((copyL (List.drop (Int.toNat x4) (List.take ((Int.toNat x4) + (Int.toNat ((((List.length x1):Nat):Int) - x4))) x1)) (List.replicate (Int.toNat (IntKind.wrap .i64 ((((List.length x0):Nat):Int) + (1:Int)))) (0:Int))),((0:Int),(x2,(x3,(x4,((((List.length (copyL (List.drop (Int.toNat x4) (List.take ((Int.toNat x4) + (Int.toNat ((((List.length x1):Nat):Int) - x4))) x1)) (List.replicate (Int.toNat (IntKind.wrap .i64 ((((List.length x0):Nat):Int) + (1:Int)))) (0:Int)))):Nat):Int),(0:Int)))))))))).2.2.2.2.1 (x1,(x4,((rdL (0:Int) x2 x4),((copyL (List.drop (Int.toNat x4) (List.take ((Int.toNat x4) + (Int.toNat ((((List.length x1):Nat):Int) - x4))) x1)) (List.replicate (Int.toNat (IntKind.wrap .i64 ((((List.length x0):Nat):Int) + (1:Int)))) (0:Int))),((0:Int),(x2,(x3,(x4,((((List.length (copyL (List.drop (Int.toNat x4) (List.take ((Int.toNat x4) + (Int.toNat ((((List.length x1):Nat):Int) - x4))) x1)) (List.replicate (Int.toNat (IntKind.wrap .i64 ((((List.length x0):Nat):Int) + (1:Int)))) (0:Int)))):Nat):Int),(0:Int)))))))))).2.2.2.2.2.1 (x1,(x4,((rdL (0:Int) x2 x4),((copyL (List.drop (Int.toNat x4) (List.take ((Int.toNat x4) + (Int.toNat ((((List.length x1):Nat):Int) - x4))) x1)) (List.replicate (Int.toNat (IntKind.wrap .i64 ((((List.length x0):Nat):Int) + (1:Int)))) (0:Int))),((0:Int),(x2,(x3,(x4,((((List.length (copyL (List.drop (Int.toNat x4) (List.take ((Int.toNat x4) + (Int.toNat ((((List.length x1):Nat):Int) - x4))) x1)) (List.replicate (Int.toNat (IntKind.wrap .i64 ((((List.length x0):Nat):Int) + (1:Int)))) (0:Int)))):Nat):Int),(0:Int)))))))))).2.2.2.2.2.2.1 (x1,(x4,((rdL (0:Int) x2 x4),((copyL (List.drop (Int.toNat x4) (List.take ((Int.toNat x4) + (Int.toNat ((((List.length x1):Nat):Int) - x4))) x1)) (List.replicate (Int.toNat (IntKind.wrap .i64 ((((List.length x0):Nat):Int) + (1:Int)))) (0:Int))),((0:Int),(x2,(x3,(x4,((((List.length (copyL (List.drop (Int.toNat x4) (List.take ((Int.toNat x4) + (Int.toNat ((((List.length x1):Nat):Int) - x4))) x1)) (List.replicate (Int.toNat (IntKind.wrap .i64 ((((List.length x0):Nat):Int) + (1:Int)))) (0:Int)))):Nat):Int),(0:Int)))))))))).2.2.2.2.2.2.2.1 (x1,(x4,((rdL (0:Int) x2 x4),((copyL (List.drop (Int.toNat x4) (List.take ((Int.toNat x4) + (Int.toNat ((((List.length x1):Nat):Int) - x4))) x1)) (List.replicate (Int.toNat (IntKind.wrap .i64 ((((List.length x0):Nat):Int) + (1:Int)))) (0:Int))),((0:Int),(x2,(x3,(x4,((((List.length (copyL (List.drop (Int.toNat x4) (List.take ((Int.toNat x4) + (Int.toNat ((((List.length x1):Nat):Int) - x4))) x1)) (List.replicate (Int.toNat (IntKind.wrap .i64 ((((List.length x0):Nat):Int) + (1:Int)))) (0:Int)))):Nat):Int),(0:Int)))))))))).2.2.2.2.2.2.2.2.1 (x1,(x4,((rdL (0:Int) x2 x4),((copyL (List.drop (Int.toNat x4) (List.take ((Int.toNat x4) + (Int.toNat ((((List.length x1):Nat):Int) - x4))) x1)) (List.replicate (Int.toNat (IntKind.wrap .i64 ((((List.length x0):Nat):Int) + (1:Int)))) (0:Int))),((0:Int),(x2,(x3,(x4,((((List.length (copyL (List.drop (Int.toNat x4) (List.take ((Int.toNat x4) + (Int.toNat ((((List.length x1):Nat):Int) - x4))) x1)) (List.replicate (Int.toNat (IntKind.wrap .i64 ((((List.length x0):Nat):Int) + (1:Int)))) (0:Int)))):Nat):Int),(0:Int)))))))))).2.2.2.2.2.2.2.2.2) fun y7=>(bif (decide (((0:Int) ≤ y7.2.2.1)∧(y7.2.2.1 ≤ (((List.length y7.2.1):Nat):Int)))) then (c1 y7.1 (copyAt (Int.toNat y7.2.2.1) (Int.toNat ((((List.length y7.2.1):Nat):Int) - y7.2.2.1)) y7.2.2.2.1 y7.2.1) y7.2.2.2.2.1 y7.2.2.2.2.2.1 (IntKind.wrap .i64 (y7.2.2.2.2.2.2 + (1:Int)))) else none)) else none) else none) else none) else (some x1))
def zA.l1:Nat→LI→LI→LI→Int→Int→Option LI
 | 0,_,_,_,_,_=>none
 | k + 1,x0,x1,x2,x3,x4=>zA.b1 (zA.l0 k) (zA.l1 k) x0 x1 x2 x3 x4
noncomputable def zA.V1 x0 x1 x2 x3 x4:=lim fun k=>zA.l1 k x0 x1 x2 x3 x4
theorem zA.v1 x0 x1 x2 x3 x4 {y} (h:zA.b1 zA.V0 zA.V1 x0 x1 x2 x3 x4=some y):zA.V1 x0 x1 x2 x3 x4=some y:=Le.v (.succ (by unfold zA.l1 zA.b1;repeat (first | with_reducible first | exact Le.const | refine Le.bind ?_ fun _=>?_ | refine Le.cond ?_ ?_ | refine Le.elim (fun _=>?_) fun _=>?_ | exact Le.of rfl))) h
def zA.L1 (k:Nat):LFn:=⟨zA.h1,zA.o1,fun x=>zA.l1 k x.1 x.2.1 x.2.2.1 x.2.2.2.1 x.2.2.2.2⟩
theorem zA.r1 (k:Nat) (x:Tup (sigTys zA.h1)):roundK T0 (zA.env k) 79 158 [⟨2,zA.L0 k⟩] zA.C (loopOf Tryz.f117 0) 0 zA.h1 zA.o1 (zA.L1 k).f x=(zA.L1 (k + 1)).f x:=by kernel_rfl
theorem zA.s1 (k:Nat):LoopSound P0 G0 79 158 (sigPins zA.hd) (zA.L1 k) (loopOf Tryz.f117 0):=loop_rounds (T:=T0) hm0 hT0 (env:=fun k=>(zA.env k)) (nh:=158) (pn:=sigPins zA.hd) (L:=fun k=>[⟨2,zA.L0 k⟩]) (C:=zA.C) (by kernel_rfl) (hd:=zA.h1) (os:=zA.o1) (by kernel_rfl) (by kernel_rfl) (by kernel_rfl) (g:=fun k=>(zA.L1 k).f) (fun k=>loops_in zA.d ⟨zA.s0 k,trivial⟩) (fun _=>rfl) (fun k x=>zA.r1 k x) k
def zA.b (c0:LI→Option LI) (c1:LI→LI→LI→Int→Int→Option LI) (a0:LI) (a1:LI):Option LI:=(Option.bind (c0 a0) fun y3=>(Option.bind (c0 a1) fun y4=>(bif (decide (((0:Int) ≤ (IntKind.wrap .i64 ((((List.length y3):Nat):Int) + (((List.length y4):Nat):Int))))∧(((IntKind.wrap .i64 ((((List.length y3):Nat):Int) + (((List.length y4):Nat):Int))) ≤ (IntKind.wrap .i64 ((((List.length y3):Nat):Int) + (((List.length y4):Nat):Int))))∧((IntKind.wrap .i64 ((((List.length y3):Nat):Int) + (((List.length y4):Nat):Int))) ≤ ((68719476736:Nat):Int))))) then (Option.bind (c1 y4 ((List.replicate (Int.toNat (IntKind.wrap .i64 ((((List.length y3):Nat):Int) + (((List.length y4):Nat):Int)))) (0:Int)),(y3,((((List.length y3):Nat):Int),(0:Int)))).1 ((List.replicate (Int.toNat (IntKind.wrap .i64 ((((List.length y3):Nat):Int) + (((List.length y4):Nat):Int)))) (0:Int)),(y3,((((List.length y3):Nat):Int),(0:Int)))).2.1 ((List.replicate (Int.toNat (IntKind.wrap .i64 ((((List.length y3):Nat):Int) + (((List.length y4):Nat):Int)))) (0:Int)),(y3,((((List.length y3):Nat):Int),(0:Int)))).2.2.1 ((List.replicate (Int.toNat (IntKind.wrap .i64 ((((List.length y3):Nat):Int) + (((List.length y4):Nat):Int)))) (0:Int)),(y3,((((List.length y3):Nat):Int),(0:Int)))).2.2.2) fun y5=>(Option.bind (c0 y5) fun y6=>(some y6))) else none)))
def zA.f (k:Nat) a0 a1:=zA.b (yo.f k) (zA.l1 k) a0 a1
noncomputable def zA.V a0 a1:=lim fun k=>zA.f k a0 a1
theorem zA.v a0 a1 {y} (h:zA.b yo.V zA.V1 a0 a1=some y):zA.V a0 a1=some y:=Le.v (by unfold zA.f zA.b;repeat (first | with_reducible first | exact Le.const | refine Le.bind ?_ fun _=>?_ | refine Le.cond ?_ ?_ | refine Le.elim (fun _=>?_) fun _=>?_ | exact Le.of rfl)) h
theorem zA.e (k:Nat) (x:Tup (sigTys zA.hd)):fnK T0 (zA.env k) [⟨2,zA.L0 k⟩,⟨0,zA.L1 k⟩] zA.C Tryz.f117 2 158 zA.hd zA.os x=zA.f k x.1 x.2:=by kernel_rfl
def zA.fn (k:Nat):Kn P0 G0:=⟨117,2,158,zA.hd,1,zA.os,fun x=>zA.f k x.1 x.2,contract (T:=T0) (fn:=Tryz.f117) hm0 hT0 (by kernel_rfl) (by kernel_rfl) (L:=[⟨2,zA.L0 k⟩,⟨0,zA.L1 k⟩]) (C:=zA.C) (by kernel_rfl) (by decide) rfl (by kernel_rfl) (loops_fn zA.d ⟨zA.s0 k,zA.s1 k,trivial⟩) (zA.e k),none⟩
def yO.hd:Sig:=[⟨false,0,(.imm (.list (.int .u32)))⟩,⟨false,1,(.imm (.int .u32))⟩]
def yO.os:List Sig:=[[⟨false,0,(.own 8 false 111 (.int .u32))⟩]]
def yO.C:List CutAt:=[]
def yO.env (k:Nat):List (Kn P0 G0):=[zA.fn k]
theorem yO.d:distN (loopIds (Tryz.f187.body.getD .skip) 0)=true:=by kernel_rfl
def yO.b (c0:LI→LI→Option LI) (a0:LI) (a1:Int):Option LI:=(Option.bind (c0 a0 (a1 :: ([]:LI))) fun y3=>(some y3))
def yO.f (k:Nat) a0 a1:=yO.b (zA.f k) a0 a1
noncomputable def yO.V a0 a1:=lim fun k=>yO.f k a0 a1
theorem yO.v a0 a1 {y} (h:yO.b zA.V a0 a1=some y):yO.V a0 a1=some y:=Le.v (by unfold yO.f yO.b;repeat (first | with_reducible first | exact Le.const | refine Le.bind ?_ fun _=>?_ | refine Le.cond ?_ ?_ | refine Le.elim (fun _=>?_) fun _=>?_ | exact Le.of rfl)) h
theorem yO.e (k:Nat) (x:Tup (sigTys yO.hd)):fnK T0 (yO.env k) [] yO.C Tryz.f187 2 18 yO.hd yO.os x=yO.f k x.1 x.2:=by kernel_rfl
def yO.fn (k:Nat):Kn P0 G0:=⟨187,2,18,yO.hd,1,yO.os,fun x=>yO.f k x.1 x.2,contract (T:=T0) (fn:=Tryz.f187) hm0 hT0 (by kernel_rfl) (by kernel_rfl) (L:=[]) (C:=yO.C) (by kernel_rfl) (by decide) rfl (by kernel_rfl) (loops_fn yO.d trivial) (yO.e k),none⟩
def xL.hd:Sig:=[⟨false,0,(.imm (.list (.int .u32)))⟩,⟨false,1,(.imm (.int .i64))⟩]
def xL.os:List Sig:=[[⟨false,0,(.own 23 false 111 (.int .u32))⟩]]
def xL.C:List CutAt:=[]
def xL.env (k:Nat):List (Kn P0 G0):=[yO.fn k]
theorem xL.d:distN (loopIds (Tryz.f185.body.getD .skip) 0)=true:=by kernel_rfl
def xL.b (c0:LI→Int→Option LI) (a0:LI) (a1:Int):Option LI:=(bif (decide (((0:Int) ≤ (IntKind.wrap .i64 ((IntKind.wrap .i64 ((IntKind.wrap .i64 (Int.tdiv a1 (32:Int))) + (((List.length a0):Nat):Int))) + (1:Int))))∧(((IntKind.wrap .i64 ((IntKind.wrap .i64 ((IntKind.wrap .i64 (Int.tdiv a1 (32:Int))) + (((List.length a0):Nat):Int))) + (1:Int))) ≤ (IntKind.wrap .i64 ((IntKind.wrap .i64 ((IntKind.wrap .i64 (Int.tdiv a1 (32:Int))) + (((List.length a0):Nat):Int))) + (1:Int))))∧((IntKind.wrap .i64 ((IntKind.wrap .i64 ((IntKind.wrap .i64 (Int.tdiv a1 (32:Int))) + (((List.length a0):Nat):Int))) + (1:Int))) ≤ ((68719476736:Nat):Int))))) then (bif (decide (((0:Int) ≤ (IntKind.wrap .i64 (Int.tdiv a1 (32:Int))))∧((IntKind.wrap .i64 (Int.tdiv a1 (32:Int))) ≤ (((List.length (List.replicate (Int.toNat (IntKind.wrap .i64 ((IntKind.wrap .i64 ((IntKind.wrap .i64 (Int.tdiv a1 (32:Int))) + (((List.length a0):Nat):Int))) + (1:Int)))) (0:Int))):Nat):Int)))) then (bif (decide ((Int.tmod a1 (32:Int)) < (0:Int))) then none else (Option.bind (c0 (copyAt (Int.toNat (IntKind.wrap .i64 (Int.tdiv a1 (32:Int)))) (Int.toNat ((((List.length (List.replicate (Int.toNat (IntKind.wrap .i64 ((IntKind.wrap .i64 ((IntKind.wrap .i64 (Int.tdiv a1 (32:Int))) + (((List.length a0):Nat):Int))) + (1:Int)))) (0:Int))):Nat):Int) - (IntKind.wrap .i64 (Int.tdiv a1 (32:Int))))) a0 (List.replicate (Int.toNat (IntKind.wrap .i64 ((IntKind.wrap .i64 ((IntKind.wrap .i64 (Int.tdiv a1 (32:Int))) + (((List.length a0):Nat):Int))) + (1:Int)))) (0:Int))) (shlI .u32 (1:Int) (Int.tmod a1 (32:Int)))) fun y3=>(some y3))) else none) else none)
def xL.f (k:Nat) a0 a1:=xL.b (yO.f k) a0 a1
noncomputable def xL.V a0 a1:=lim fun k=>xL.f k a0 a1
theorem xL.v a0 a1 {y} (h:xL.b yO.V a0 a1=some y):xL.V a0 a1=some y:=Le.v (by unfold xL.f xL.b;repeat (first | with_reducible first | exact Le.const | refine Le.bind ?_ fun _=>?_ | refine Le.cond ?_ ?_ | refine Le.elim (fun _=>?_) fun _=>?_ | exact Le.of rfl)) h
theorem xL.e (k:Nat) (x:Tup (sigTys xL.hd)):fnK T0 (xL.env k) [] xL.C Tryz.f185 2 48 xL.hd xL.os x=xL.f k x.1 x.2:=by kernel_rfl
def xL.fn (k:Nat):Kn P0 G0:=⟨185,2,48,xL.hd,1,xL.os,fun x=>xL.f k x.1 x.2,contract (T:=T0) (fn:=Tryz.f185) hm0 hT0 (by kernel_rfl) (by kernel_rfl) (L:=[]) (C:=xL.C) (by kernel_rfl) (by decide) rfl (by kernel_rfl) (loops_fn xL.d trivial) (xL.e k),none⟩
def ya.hd:Sig:=[⟨false,0,(.imm (.list (.int .u32)))⟩,⟨false,1,(.imm (.int .i64))⟩]
def ya.os:List Sig:=[[⟨false,0,(.own 13 false 111 (.int .u32))⟩]]
def ya.h0:Sig:=[⟨false,1,(.imm (.int .i64))⟩,⟨false,5,(.own 18 false 111 (.int .u32))⟩,⟨false,20,(.imm (.int .i64))⟩,⟨false,21,(.imm (.int .i64))⟩]
def ya.o0:Outs:=[((.exit 0),[⟨false,5,(.own 18 false 111 (.int .u32))⟩])]
def ya.C:List CutAt:=[⟨10,[(.normal,[⟨false,1,(.imm (.int .i64))⟩,⟨false,5,(.own 18 false 111 (.int .u32))⟩,⟨false,6,(.imm (.int .i64))⟩,⟨false,7,(.imm (.int .u64))⟩,⟨false,20,(.imm (.int .i64))⟩,⟨false,21,(.imm (.int .i64))⟩])]⟩]
def ya.env (k:Nat):List (Kn P0 G0):=[yo.fn k]
theorem ya.d:distN (loopIds (Tryz.f186.body.getD .skip) 0)=true:=by kernel_rfl
def ya.b0 (c0:Int→LI→Int→Int→Option LI) (x0:Int) (x1:LI) (x2:Int) (x3:Int):Option LI:=(bif (decide (x3 < x2)) then (Option.bind (bif (decide ((IntKind.wrap .i64 (x3 + (1:Int))) < (((List.length x1):Nat):Int))) then (bif (decide (((0:Int) ≤ (IntKind.wrap .i64 (x3 + (1:Int))))∧((IntKind.wrap .i64 (x3 + (1:Int))) < (((List.length x1):Nat):Int)))) then (some (x0,(x1,(x3,((IntKind.wrap .u64 (rdL (0:Int) x1 (IntKind.wrap .i64 (x3 + (1:Int))))),(x2,x3)))))) else none) else (some (x0,(x1,(x3,((0:Int),(x2,x3))))))) fun y6=>(bif (decide (((0:Int) ≤ y6.2.2.1)∧(y6.2.2.1 < (((List.length y6.2.1):Nat):Int)))) then (bif (decide ((Int.tmod y6.1 (32:Int)) < (0:Int))) then none else (bif (decide (((0:Int) ≤ y6.2.2.1)∧(y6.2.2.1 < (((List.length y6.2.1):Nat):Int)))) then (c0 y6.1 (List.set y6.2.1 (Int.toNat y6.2.2.1) (IntKind.wrap .u32 (shrI .u64 (bor .u64 (shlI .u64 y6.2.2.2.1 (32:Int)) (IntKind.wrap .u64 (rdL (0:Int) y6.2.1 y6.2.2.1))) (Int.tmod y6.1 (32:Int))))) y6.2.2.2.2.1 (IntKind.wrap .i64 (y6.2.2.2.2.2 + (1:Int)))) else none)) else none)) else (some x1))
def ya.l0:Nat→Int→LI→Int→Int→Option LI
 | 0,_,_,_,_=>none
 | k + 1,x0,x1,x2,x3=>ya.b0 (ya.l0 k) x0 x1 x2 x3
noncomputable def ya.V0 x0 x1 x2 x3:=lim fun k=>ya.l0 k x0 x1 x2 x3
theorem ya.v0 x0 x1 x2 x3 {y} (h:ya.b0 ya.V0 x0 x1 x2 x3=some y):ya.V0 x0 x1 x2 x3=some y:=Le.v (.succ (by unfold ya.l0 ya.b0;repeat (first | with_reducible first | exact Le.const | refine Le.bind ?_ fun _=>?_ | refine Le.cond ?_ ?_ | refine Le.elim (fun _=>?_) fun _=>?_ | exact Le.of rfl))) h
def ya.L0 (k:Nat):LFn:=⟨ya.h0,ya.o0,fun x=>ya.l0 k x.1 x.2.1 x.2.2.1 x.2.2.2⟩
theorem ya.r0 (k:Nat) (x:Tup (sigTys ya.h0)):roundK T0 (ya.env k) 53 106 [] ya.C (loopOf Tryz.f186 0) 0 ya.h0 ya.o0 (ya.L0 k).f x=(ya.L0 (k + 1)).f x:=by kernel_rfl
theorem ya.s0 (k:Nat):LoopSound P0 G0 53 106 (sigPins ya.hd) (ya.L0 k) (loopOf Tryz.f186 0):=loop_rounds (T:=T0) hm0 hT0 (env:=fun k=>(ya.env k)) (nh:=106) (pn:=sigPins ya.hd) (L:=fun k=>[]) (C:=ya.C) (by kernel_rfl) (hd:=ya.h0) (os:=ya.o0) (by kernel_rfl) (by kernel_rfl) (by kernel_rfl) (g:=fun k=>(ya.L0 k).f) (fun k=>loops_in ya.d trivial) (fun _=>rfl) (fun k x=>ya.r0 k x) k
def ya.b (c0:LI→Option LI) (c1:Int→LI→Int→Int→Option LI) (a0:LI) (a1:Int):Option LI:=(bif (decide ((IntKind.wrap .i64 (Int.tdiv a1 (32:Int))) ≥ (((List.length a0):Nat):Int))) then (some ([]:LI)) else (bif (decide (((0:Int) ≤ (IntKind.wrap .i64 (Int.tdiv a1 (32:Int))))∧((IntKind.wrap .i64 (Int.tdiv a1 (32:Int))) ≤ (((List.length a0):Nat):Int)))) then (Option.bind (c0 (List.drop (Int.toNat (IntKind.wrap .i64 (Int.tdiv a1 (32:Int)))) a0)) fun y3=>(Option.bind (c1 a1 (y3,((((List.length y3):Nat):Int),(0:Int))).1 (y3,((((List.length y3):Nat):Int),(0:Int))).2.1 (y3,((((List.length y3):Nat):Int),(0:Int))).2.2) fun y4=>(Option.bind (c0 y4) fun y5=>(some y5)))) else none))
def ya.f (k:Nat) a0 a1:=ya.b (yo.f k) (ya.l0 k) a0 a1
noncomputable def ya.V a0 a1:=lim fun k=>ya.f k a0 a1
theorem ya.v a0 a1 {y} (h:ya.b yo.V ya.V0 a0 a1=some y):ya.V a0 a1=some y:=Le.v (by unfold ya.f ya.b;repeat (first | with_reducible first | exact Le.const | refine Le.bind ?_ fun _=>?_ | refine Le.cond ?_ ?_ | refine Le.elim (fun _=>?_) fun _=>?_ | exact Le.of rfl)) h
theorem ya.e (k:Nat) (x:Tup (sigTys ya.hd)):fnK T0 (ya.env k) [⟨0,ya.L0 k⟩] ya.C Tryz.f186 2 106 ya.hd ya.os x=ya.f k x.1 x.2:=by kernel_rfl
def ya.fn (k:Nat):Kn P0 G0:=⟨186,2,106,ya.hd,1,ya.os,fun x=>ya.f k x.1 x.2,contract (T:=T0) (fn:=Tryz.f186) hm0 hT0 (by kernel_rfl) (by kernel_rfl) (L:=[⟨0,ya.L0 k⟩]) (C:=ya.C) (by kernel_rfl) (by decide) rfl (by kernel_rfl) (loops_fn ya.d ⟨ya.s0 k,trivial⟩) (ya.e k),none⟩
def xg.hd:Sig:=[⟨false,0,(.imm (.list (.int .u32)))⟩,⟨false,1,(.imm (.int .i64))⟩]
def xg.os:List Sig:=[[⟨false,0,(.own 11 false 111 (.int .u32))⟩]]
def xg.C:List CutAt:=[]
def xg.env (k:Nat):List (Kn P0 G0):=[xL.fn k,ya.fn k]
theorem xg.d:distN (loopIds (Tryz.f172.body.getD .skip) 0)=true:=by kernel_rfl
def xg.b (c0:LI→Int→Option LI) (c1:LI→Int→Option LI) (a0:LI) (a1:Int):Option LI:=(bif (decide (a1 ≥ (0:Int))) then (Option.bind (c0 a0 (mnI a1 (8192:Int))) fun y3=>(some y3)) else (bif (decide (a1 < (-(8192:Int)))) then (some ([]:LI)) else (Option.bind (c1 a0 (IntKind.wrap .i64 ((0:Int) - a1))) fun y3=>(some y3))))
def xg.f (k:Nat) a0 a1:=xg.b (xL.f k) (ya.f k) a0 a1
noncomputable def xg.V a0 a1:=lim fun k=>xg.f k a0 a1
theorem xg.v a0 a1 {y} (h:xg.b xL.V ya.V a0 a1=some y):xg.V a0 a1=some y:=Le.v (by unfold xg.f xg.b;repeat (first | with_reducible first | exact Le.const | refine Le.bind ?_ fun _=>?_ | refine Le.cond ?_ ?_ | refine Le.elim (fun _=>?_) fun _=>?_ | exact Le.of rfl)) h
theorem xg.e (k:Nat) (x:Tup (sigTys xg.hd)):fnK T0 (xg.env k) [] xg.C Tryz.f172 2 40 xg.hd xg.os x=xg.f k x.1 x.2:=by kernel_rfl
def xg.fn (k:Nat):Kn P0 G0:=⟨172,2,40,xg.hd,1,xg.os,fun x=>xg.f k x.1 x.2,contract (T:=T0) (fn:=Tryz.f172) hm0 hT0 (by kernel_rfl) (by kernel_rfl) (L:=[]) (C:=xg.C) (by kernel_rfl) (by decide) rfl (by kernel_rfl) (loops_fn xg.d trivial) (xg.e k),none⟩
def xN.hd:Sig:=[⟨false,0,(.imm (.list (.int .u32)))⟩,⟨false,1,(.imm (.list (.int .u32)))⟩]
def xN.os:List Sig:=[[⟨false,0,(.imm (.int .u32))⟩]]
def xN.C:List CutAt:=[]
def xN.env:List (Kn P0 G0):=[]
theorem xN.d:distN (loopIds (Tryz.f174.body.getD .skip) 0)=true:=by kernel_rfl
def xN.f (a0:LI) (a1:LI):Option Int:=(bif (decide (((0:Int) ≤ (((List.length a1):Nat):Int))∧((((List.length a1):Nat):Int) < (((List.length a0):Nat):Int)))) then (bif (decide (((0:Int) ≤ (IntKind.wrap .i64 ((((List.length a1):Nat):Int) - (1:Int))))∧((IntKind.wrap .i64 ((((List.length a1):Nat):Int) - (1:Int))) < (((List.length a0):Nat):Int)))) then (bif (decide (((0:Int) ≤ (IntKind.wrap .i64 ((((List.length a1):Nat):Int) - (1:Int))))∧((IntKind.wrap .i64 ((((List.length a1):Nat):Int) - (1:Int))) < (((List.length a1):Nat):Int)))) then (bif (decide ((IntKind.wrap .u64 (rdL (0:Int) a1 (IntKind.wrap .i64 ((((List.length a1):Nat):Int) - (1:Int)))))=(0:Int))) then none else (some (IntKind.wrap .u32 (mnI (IntKind.wrap .u64 (Int.tdiv (bor .u64 (shlI .u64 (IntKind.wrap .u64 (rdL (0:Int) a0 (((List.length a1):Nat):Int))) (32:Int)) (IntKind.wrap .u64 (rdL (0:Int) a0 (IntKind.wrap .i64 ((((List.length a1):Nat):Int) - (1:Int)))))) (IntKind.wrap .u64 (rdL (0:Int) a1 (IntKind.wrap .i64 ((((List.length a1):Nat):Int) - (1:Int))))))) (4294967295:Int))))) else none) else none) else none)
theorem xN.e (x:Tup (sigTys xN.hd)):fnK T0 xN.env [] xN.C Tryz.f174 2 68 xN.hd xN.os x=xN.f x.1 x.2:=by kernel_rfl
def xN.fn:Kn P0 G0:=⟨174,2,68,xN.hd,1,xN.os,fun x=>xN.f x.1 x.2,contract (T:=T0) (fn:=Tryz.f174) hm0 hT0 (by kernel_rfl) (by kernel_rfl) (L:=[]) (C:=xN.C) (by kernel_rfl) (by decide) rfl (by kernel_rfl) (loops_fn xN.d trivial) (xN.e),none⟩
def xd.hd:Sig:=[⟨false,0,(.imm (.int .i64))⟩]
def xd.os:List Sig:=[[⟨false,0,(.imm .bool)⟩]]
def xd.C:List CutAt:=[]
def xd.env:List (Kn P0 G0):=[]
theorem xd.d:distN (loopIds (Tryz.f169.body.getD .skip) 0)=true:=by kernel_rfl
def xd.f (a0:Int):Option Bool:=(some (a0 != a0))
theorem xd.e (x:Tup (sigTys xd.hd)):fnK T0 xd.env [] xd.C Tryz.f169 1 12 xd.hd xd.os x=xd.f x:=by kernel_rfl
def xd.fn:Kn P0 G0:=⟨169,1,12,xd.hd,1,xd.os,fun x=>xd.f x,contract (T:=T0) (fn:=Tryz.f169) hm0 hT0 (by kernel_rfl) (by kernel_rfl) (L:=[]) (C:=xd.C) (by kernel_rfl) (by decide) rfl (by kernel_rfl) (loops_fn xd.d trivial) (xd.e),none⟩
def yN.hd:Sig:=[⟨false,0,(.imm (.int .i64))⟩,⟨false,1,(.imm (.int .i64))⟩]
def yN.os:List Sig:=[[⟨false,0,(.imm (.int .i64))⟩]]
def yN.C:List CutAt:=[]
def yN.env:List (Kn P0 G0):=[xd.fn]
theorem yN.d:distN (loopIds (Tryz.f148.body.getD .skip) 0)=true:=by kernel_rfl
def yN.f (a0:Int) (a1:Int):Option Int:=(Option.bind (xd.f a0) fun y2=>(Option.bind (xd.f a1) fun y3=>(bif y2 then (bif y3 then (some (0:Int)) else (some (-(1:Int)))) else (bif y3 then (some (1:Int)) else (bif (decide (a0 < a1)) then (some (-(1:Int))) else (bif (decide (a0 > a1)) then (some (1:Int)) else (some (0:Int))))))))
theorem yN.e (x:Tup (sigTys yN.hd)):fnK T0 yN.env [] yN.C Tryz.f148 2 40 yN.hd yN.os x=yN.f x.1 x.2:=by kernel_rfl
def yN.fn:Kn P0 G0:=⟨148,2,40,yN.hd,1,yN.os,fun x=>yN.f x.1 x.2,contract (T:=T0) (fn:=Tryz.f148) hm0 hT0 (by kernel_rfl) (by kernel_rfl) (L:=[]) (C:=yN.C) (by kernel_rfl) (by decide) rfl (by kernel_rfl) (loops_fn yN.d trivial) (yN.e),none⟩
def yH.hd:Sig:=[⟨false,0,(.imm (.int .u32))⟩]
def yH.os:List Sig:=[[⟨false,0,(.imm .bool)⟩]]
def yH.C:List CutAt:=[]
def yH.env:List (Kn P0 G0):=[]
theorem yH.d:distN (loopIds (Tryz.f170.body.getD .skip) 0)=true:=by kernel_rfl
def yH.f (a0:Int):Option Bool:=(some (a0 != a0))
theorem yH.e (x:Tup (sigTys yH.hd)):fnK T0 yH.env [] yH.C Tryz.f170 1 12 yH.hd yH.os x=yH.f x:=by kernel_rfl
def yH.fn:Kn P0 G0:=⟨170,1,12,yH.hd,1,yH.os,fun x=>yH.f x,contract (T:=T0) (fn:=Tryz.f170) hm0 hT0 (by kernel_rfl) (by kernel_rfl) (L:=[]) (C:=yH.C) (by kernel_rfl) (by decide) rfl (by kernel_rfl) (loops_fn yH.d trivial) (yH.e),none⟩
def yB.hd:Sig:=[⟨false,0,(.imm (.int .u32))⟩,⟨false,1,(.imm (.int .u32))⟩]
def yB.os:List Sig:=[[⟨false,0,(.imm (.int .i64))⟩]]
def yB.C:List CutAt:=[]
def yB.env:List (Kn P0 G0):=[yH.fn]
theorem yB.d:distN (loopIds (Tryz.f149.body.getD .skip) 0)=true:=by kernel_rfl
def yB.f (a0:Int) (a1:Int):Option Int:=(Option.bind (yH.f a0) fun y2=>(Option.bind (yH.f a1) fun y3=>(bif y2 then (bif y3 then (some (0:Int)) else (some (-(1:Int)))) else (bif y3 then (some (1:Int)) else (bif (decide (a0 < a1)) then (some (-(1:Int))) else (bif (decide (a0 > a1)) then (some (1:Int)) else (some (0:Int))))))))
theorem yB.e (x:Tup (sigTys yB.hd)):fnK T0 yB.env [] yB.C Tryz.f149 2 40 yB.hd yB.os x=yB.f x.1 x.2:=by kernel_rfl
def yB.fn:Kn P0 G0:=⟨149,2,40,yB.hd,1,yB.os,fun x=>yB.f x.1 x.2,contract (T:=T0) (fn:=Tryz.f149) hm0 hT0 (by kernel_rfl) (by kernel_rfl) (L:=[]) (C:=yB.C) (by kernel_rfl) (by decide) rfl (by kernel_rfl) (loops_fn yB.d trivial) (yB.e),none⟩
def ye.hd:Sig:=[⟨false,0,(.imm (.list (.int .u32)))⟩,⟨false,1,(.imm (.list (.int .u32)))⟩]
def ye.os:List Sig:=[[⟨false,0,(.imm (.int .i64))⟩]]
def ye.h0:Sig:=[⟨false,0,(.imm (.list (.int .u32)))⟩,⟨false,1,(.imm (.list (.int .u32)))⟩,⟨false,7,(.imm (.int .i64))⟩]
def ye.o0:Outs:=[((.exit 0),[]),(.ret,[⟨false,4,(.imm (.int .i64))⟩])]
def ye.C:List CutAt:=[]
def ye.env (k:Nat):List (Kn P0 G0):=[zT.fn k,yN.fn,yB.fn]
theorem ye.d:distN (loopIds (Tryz.f110.body.getD .skip) 0)=true:=by kernel_rfl
def ye.b0 (c0:LI→LI→Int→Option ((Unit) ⊕ Int)) (x0:LI) (x1:LI) (x2:Int):Option ((Unit) ⊕ Int):=(bif (decide (x2 ≥ (0:Int))) then (bif (decide (((0:Int) ≤ x2)∧(x2 < (((List.length x0):Nat):Int)))) then (bif (decide (((0:Int) ≤ x2)∧(x2 < (((List.length x1):Nat):Int)))) then (Option.bind (yB.f (rdL (0:Int) x0 x2) (rdL (0:Int) x1 x2)) fun y5=>(bif (y5 != (0:Int)) then (some (Sum.inr y5)) else (c0 x0 x1 (IntKind.wrap .i64 (x2 - (1:Int)))))) else none) else none) else (some (Sum.inl ())))
def ye.l0:Nat→LI→LI→Int→Option ((Unit) ⊕ Int)
 | 0,_,_,_=>none
 | k + 1,x0,x1,x2=>ye.b0 (ye.l0 k) x0 x1 x2
noncomputable def ye.V0 x0 x1 x2:=lim fun k=>ye.l0 k x0 x1 x2
theorem ye.v0 x0 x1 x2 {y} (h:ye.b0 ye.V0 x0 x1 x2=some y):ye.V0 x0 x1 x2=some y:=Le.v (.succ (by unfold ye.l0 ye.b0;repeat (first | with_reducible first | exact Le.const | refine Le.bind ?_ fun _=>?_ | refine Le.cond ?_ ?_ | refine Le.elim (fun _=>?_) fun _=>?_ | exact Le.of rfl))) h
def ye.L0 (k:Nat):LFn:=⟨ye.h0,ye.o0,fun x=>ye.l0 k x.1 x.2.1 x.2.2⟩
theorem ye.r0 (k:Nat) (x:Tup (sigTys ye.h0)):roundK T0 (ye.env k) 36 72 [] ye.C (loopOf Tryz.f110 0) 0 ye.h0 ye.o0 (ye.L0 k).f x=(ye.L0 (k + 1)).f x:=by kernel_rfl
theorem ye.s0 (k:Nat):LoopSound P0 G0 36 72 (sigPins ye.hd) (ye.L0 k) (loopOf Tryz.f110 0):=loop_rounds (T:=T0) hm0 hT0 (env:=fun k=>(ye.env k)) (nh:=72) (pn:=sigPins ye.hd) (L:=fun k=>[]) (C:=ye.C) (by kernel_rfl) (hd:=ye.h0) (os:=ye.o0) (by kernel_rfl) (by kernel_rfl) (by kernel_rfl) (g:=fun k=>(ye.L0 k).f) (fun k=>loops_in ye.d trivial) (fun _=>rfl) (fun k x=>ye.r0 k x) k
def ye.b (c0:LI→Option Int) (c1:LI→LI→Int→Option ((Unit) ⊕ Int)) (a0:LI) (a1:LI):Option Int:=(Option.bind (c0 a0) fun y3=>(Option.bind (c0 a1) fun y4=>(Option.bind (yN.f y3 y4) fun y5=>(bif (y5 != (0:Int)) then (some y5) else (Option.bind (c1 a0 (a1,(IntKind.wrap .i64 (y3 - (1:Int)))).1 (a1,(IntKind.wrap .i64 (y3 - (1:Int)))).2) fun y6=>(Sum.elim (fun y7=>(some (0:Int))) (fun y7=>(some y7)) y6))))))
def ye.f (k:Nat) a0 a1:=ye.b (zT.f k) (ye.l0 k) a0 a1
noncomputable def ye.V a0 a1:=lim fun k=>ye.f k a0 a1
theorem ye.v a0 a1 {y} (h:ye.b zT.V ye.V0 a0 a1=some y):ye.V a0 a1=some y:=Le.v (by unfold ye.f ye.b;repeat (first | with_reducible first | exact Le.const | refine Le.bind ?_ fun _=>?_ | refine Le.cond ?_ ?_ | refine Le.elim (fun _=>?_) fun _=>?_ | exact Le.of rfl)) h
theorem ye.e (k:Nat) (x:Tup (sigTys ye.hd)):fnK T0 (ye.env k) [⟨0,ye.L0 k⟩] ye.C Tryz.f110 2 72 ye.hd ye.os x=ye.f k x.1 x.2:=by kernel_rfl
def ye.fn (k:Nat):Kn P0 G0:=⟨110,2,72,ye.hd,1,ye.os,fun x=>ye.f k x.1 x.2,contract (T:=T0) (fn:=Tryz.f110) hm0 hT0 (by kernel_rfl) (by kernel_rfl) (L:=[⟨0,ye.L0 k⟩]) (C:=ye.C) (by kernel_rfl) (by decide) rfl (by kernel_rfl) (loops_fn ye.d ⟨ye.s0 k,trivial⟩) (ye.e k),none⟩
def wa.hd:Sig:=[⟨false,0,(.imm (.list (.int .u32)))⟩,⟨false,1,(.imm (.int .i64))⟩]
def wa.os:List Sig:=[[⟨false,0,(.imm (.int .u32))⟩]]
def wa.C:List CutAt:=[]
def wa.env:List (Kn P0 G0):=[]
theorem wa.d:distN (loopIds (Tryz.f176.body.getD .skip) 0)=true:=by kernel_rfl
def wa.f (a0:LI) (a1:Int):Option Int:=(bif (decide (a1 < (((List.length a0):Nat):Int))) then (bif (decide (((0:Int) ≤ a1)∧(a1 < (((List.length a0):Nat):Int)))) then (some (rdL (0:Int) a0 a1)) else none) else (some (0:Int)))
theorem wa.e (x:Tup (sigTys wa.hd)):fnK T0 wa.env [] wa.C Tryz.f176 2 26 wa.hd wa.os x=wa.f x.1 x.2:=by kernel_rfl
def wa.fn:Kn P0 G0:=⟨176,2,26,wa.hd,1,wa.os,fun x=>wa.f x.1 x.2,contract (T:=T0) (fn:=Tryz.f176) hm0 hT0 (by kernel_rfl) (by kernel_rfl) (L:=[]) (C:=wa.C) (by kernel_rfl) (by decide) rfl (by kernel_rfl) (loops_fn wa.d trivial) (wa.e),none⟩
def yQ.hd:Sig:=[⟨false,0,(.imm (.int .u32))⟩,⟨false,1,(.imm (.int .u32))⟩,⟨false,2,(.imm (.int .u32))⟩]
def yQ.os:List Sig:=[[⟨false,0,(.imm (.int .u32))⟩,⟨false,1,(.imm (.int .u32))⟩]]
def yQ.C:List CutAt:=[]
def yQ.env:List (Kn P0 G0):=[]
theorem yQ.d:distN (loopIds (Tryz.f177.body.getD .skip) 0)=true:=by kernel_rfl
def yQ.f (a0:Int) (a1:Int) (a2:Int):Option (Int × Int):=(some ((IntKind.wrap .u32 ((IntKind.wrap .u32 (a0 - a1)) - a2)),(shrI .u32 (bor .u32 (band .u32 (cplI .u32 a0) a1) (band .u32 (cplI .u32 (bxor .u32 a0 a1)) (IntKind.wrap .u32 ((IntKind.wrap .u32 (a0 - a1)) - a2)))) (31:Int))))
theorem yQ.e (x:Tup (sigTys yQ.hd)):fnK T0 yQ.env [] yQ.C Tryz.f177 3 50 yQ.hd yQ.os x=yQ.f x.1 x.2.1 x.2.2:=by kernel_rfl
def yQ.fn:Kn P0 G0:=⟨177,3,50,yQ.hd,2,yQ.os,fun x=>yQ.f x.1 x.2.1 x.2.2,contract (T:=T0) (fn:=Tryz.f177) hm0 hT0 (by kernel_rfl) (by kernel_rfl) (L:=[]) (C:=yQ.C) (by kernel_rfl) (by decide) rfl (by kernel_rfl) (loops_fn yQ.d trivial) (yQ.e),none⟩
def yg.hd:Sig:=[⟨false,0,(.imm (.list (.int .u32)))⟩,⟨false,1,(.imm (.list (.int .u32)))⟩]
def yg.os:List Sig:=[[⟨false,0,.nilS⟩,⟨false,1,(.imm .bool)⟩],[⟨false,0,(.own 37 false 111 (.int .u32))⟩,⟨false,1,(.imm .bool)⟩]]
def yg.h0:Sig:=[⟨false,1,(.imm (.list (.int .u32)))⟩,⟨false,6,(.own 14 false 111 (.int .u32))⟩,⟨false,7,(.imm (.int .u32))⟩,⟨false,16,(.imm (.int .i64))⟩,⟨false,17,(.imm (.int .i64))⟩]
def yg.o0:Outs:=[((.exit 0),[⟨false,6,(.own 14 false 111 (.int .u32))⟩])]
def yg.C:List CutAt:=[]
def yg.env (k:Nat):List (Kn P0 G0):=[ye.fn k,yo.fn k,wa.fn,yQ.fn]
theorem yg.d:distN (loopIds (Tryz.f155.body.getD .skip) 0)=true:=by kernel_rfl
def yg.b0 (c0:LI→LI→Int→Int→Int→Option LI) (x0:LI) (x1:LI) (x2:Int) (x3:Int) (x4:Int):Option LI:=(bif (decide (x4 < x3)) then (bif (decide (((0:Int) ≤ x4)∧(x4 < (((List.length x1):Nat):Int)))) then (Option.bind (wa.f x0 x4) fun y7=>(Option.bind (yQ.f (rdL (0:Int) x1 x4) (y7,x2).1 (y7,x2).2) fun y8=>(bif (decide (((0:Int) ≤ x4)∧(x4 < (((List.length x1):Nat):Int)))) then (c0 x0 (List.set x1 (Int.toNat x4) y8.1) y8.2 x3 (IntKind.wrap .i64 (x4 + (1:Int)))) else none))) else none) else (some x1))
def yg.l0:Nat→LI→LI→Int→Int→Int→Option LI
 | 0,_,_,_,_,_=>none
 | k + 1,x0,x1,x2,x3,x4=>yg.b0 (yg.l0 k) x0 x1 x2 x3 x4
noncomputable def yg.V0 x0 x1 x2 x3 x4:=lim fun k=>yg.l0 k x0 x1 x2 x3 x4
theorem yg.v0 x0 x1 x2 x3 x4 {y} (h:yg.b0 yg.V0 x0 x1 x2 x3 x4=some y):yg.V0 x0 x1 x2 x3 x4=some y:=Le.v (.succ (by unfold yg.l0 yg.b0;repeat (first | with_reducible first | exact Le.const | refine Le.bind ?_ fun _=>?_ | refine Le.cond ?_ ?_ | refine Le.elim (fun _=>?_) fun _=>?_ | exact Le.of rfl))) h
def yg.L0 (k:Nat):LFn:=⟨yg.h0,yg.o0,fun x=>yg.l0 k x.1 x.2.1 x.2.2.1 x.2.2.2.1 x.2.2.2.2⟩
theorem yg.r0 (k:Nat) (x:Tup (sigTys yg.h0)):roundK T0 (yg.env k) 38 76 [] yg.C (loopOf Tryz.f155 0) 0 yg.h0 yg.o0 (yg.L0 k).f x=(yg.L0 (k + 1)).f x:=by kernel_rfl
theorem yg.s0 (k:Nat):LoopSound P0 G0 38 76 (sigPins yg.hd) (yg.L0 k) (loopOf Tryz.f155 0):=loop_rounds (T:=T0) hm0 hT0 (env:=fun k=>(yg.env k)) (nh:=76) (pn:=sigPins yg.hd) (L:=fun k=>[]) (C:=yg.C) (by kernel_rfl) (hd:=yg.h0) (os:=yg.o0) (by kernel_rfl) (by kernel_rfl) (by kernel_rfl) (g:=fun k=>(yg.L0 k).f) (fun k=>loops_in yg.d trivial) (fun _=>rfl) (fun k x=>yg.r0 k x) k
def yg.b (c0:LI→LI→Option Int) (c1:LI→Option LI) (c2:LI→LI→Int→Int→Int→Option LI) (a0:LI) (a1:LI):Option (Bool ⊕ (LI × Bool)):=(Option.bind (c0 a0 a1) fun y3=>(bif (decide (y3 < (0:Int))) then (some (Sum.inl false)) else (Option.bind (c1 a0) fun y4=>(Option.bind (c2 a1 (y4,((0:Int),((((List.length y4):Nat):Int),(0:Int)))).1 (y4,((0:Int),((((List.length y4):Nat):Int),(0:Int)))).2.1 (y4,((0:Int),((((List.length y4):Nat):Int),(0:Int)))).2.2.1 (y4,((0:Int),((((List.length y4):Nat):Int),(0:Int)))).2.2.2) fun y5=>(Option.bind (c1 y5) fun y6=>(some (Sum.inr (y6,true))))))))
def yg.f (k:Nat) a0 a1:=yg.b (ye.f k) (yo.f k) (yg.l0 k) a0 a1
noncomputable def yg.V a0 a1:=lim fun k=>yg.f k a0 a1
theorem yg.v a0 a1 {y} (h:yg.b ye.V yo.V yg.V0 a0 a1=some y):yg.V a0 a1=some y:=Le.v (by unfold yg.f yg.b;repeat (first | with_reducible first | exact Le.const | refine Le.bind ?_ fun _=>?_ | refine Le.cond ?_ ?_ | refine Le.elim (fun _=>?_) fun _=>?_ | exact Le.of rfl)) h
theorem yg.e (k:Nat) (x:Tup (sigTys yg.hd)):fnK T0 (yg.env k) [⟨0,yg.L0 k⟩] yg.C Tryz.f155 2 76 yg.hd yg.os x=yg.f k x.1 x.2:=by kernel_rfl
def yg.fn (k:Nat):Kn P0 G0:=⟨155,2,76,yg.hd,2,yg.os,fun x=>yg.f k x.1 x.2,contract (T:=T0) (fn:=Tryz.f155) hm0 hT0 (by kernel_rfl) (by kernel_rfl) (L:=[⟨0,yg.L0 k⟩]) (C:=yg.C) (by kernel_rfl) (by decide) rfl (by kernel_rfl) (loops_fn yg.d ⟨yg.s0 k,trivial⟩) (yg.e k),none⟩
def yb.hd:Sig:=[⟨false,0,(.imm (.list (.int .u32)))⟩,⟨false,1,(.imm (.list (.int .u32)))⟩,⟨false,2,(.imm (.int .u32))⟩]
def yb.os:List Sig:=[[⟨false,0,(.own 15 false 111 (.int .u32))⟩,⟨false,1,(.imm (.int .u32))⟩]]
def yb.h0:Sig:=[⟨false,0,(.imm (.list (.int .u32)))⟩,⟨false,1,(.imm (.list (.int .u32)))⟩,⟨false,2,(.imm (.int .u32))⟩]
def yb.o0:Outs:=[(.ret,[⟨false,6,(.own 15 false 111 (.int .u32))⟩,⟨false,7,(.imm (.int .u32))⟩])]
def yb.C:List CutAt:=[]
def yb.env (k:Nat):List (Kn P0 G0):=[yO.fn k,yg.fn k]
theorem yb.d:distN (loopIds (Tryz.f173.body.getD .skip) 0)=true:=by kernel_rfl
def yb.b0 (c0:LI→Int→Option LI) (c1:LI→LI→Option (Bool ⊕ (LI × Bool))) (c2:LI→LI→Int→Option (LI × Int)) (x0:LI) (x1:LI) (x2:Int):Option (LI × Int):=(Option.bind (c0 x1 x2) fun y5=>(Option.bind (c1 x0 y5) fun y6=>(Sum.elim (fun y7=>(bif y7 then (some (([]:LI),x2)) else (c2 x0 x1 (IntKind.wrap .u32 (x2 - (1:Int)))))) (fun y7=>(bif y7.2 then (some (y7.1,x2)) else (c2 x0 x1 (IntKind.wrap .u32 (x2 - (1:Int)))))) y6)))
def yb.l0:Nat→LI→LI→Int→Option (LI × Int)
 | 0,_,_,_=>none
 | k + 1,x0,x1,x2=>yb.b0 (yO.f k) (yg.f k) (yb.l0 k) x0 x1 x2
noncomputable def yb.V0 x0 x1 x2:=lim fun k=>yb.l0 k x0 x1 x2
theorem yb.v0 x0 x1 x2 {y} (h:yb.b0 yO.V yg.V yb.V0 x0 x1 x2=some y):yb.V0 x0 x1 x2=some y:=Le.v (.succ (by unfold yb.l0 yb.b0;repeat (first | with_reducible first | exact Le.const | refine Le.bind ?_ fun _=>?_ | refine Le.cond ?_ ?_ | refine Le.elim (fun _=>?_) fun _=>?_ | exact Le.of rfl))) h
def yb.L0 (k:Nat):LFn:=⟨yb.h0,yb.o0,fun x=>yb.l0 k x.1 x.2.1 x.2.2⟩
theorem yb.r0 (k:Nat) (x:Tup (sigTys yb.h0)):roundK T0 (yb.env k) 23 46 [] yb.C (loopOf Tryz.f173 0) 0 yb.h0 yb.o0 (yb.L0 k).f x=(yb.L0 (k + 1)).f x:=by kernel_rfl
theorem yb.s0 (k:Nat):LoopSound P0 G0 23 46 (sigPins yb.hd) (yb.L0 k) (loopOf Tryz.f173 0):=loop_rounds (T:=T0) hm0 hT0 (env:=fun k=>(yb.env k)) (nh:=46) (pn:=sigPins yb.hd) (L:=fun k=>[]) (C:=yb.C) (by kernel_rfl) (hd:=yb.h0) (os:=yb.o0) (by kernel_rfl) (by kernel_rfl) (by kernel_rfl) (g:=fun k=>(yb.L0 k).f) (fun k=>loops_in yb.d trivial) (fun _=>rfl) (fun k x=>yb.r0 k x) k
def yb.b (c0:LI→LI→Int→Option (LI × Int)) (a0:LI) (a1:LI) (a2:Int):Option (LI × Int):=(Option.bind (c0 a0 (a1,a2).1 (a1,a2).2) fun y4=>(some (y4.1,y4.2)))
def yb.f (k:Nat) a0 a1 a2:=yb.b (yb.l0 k) a0 a1 a2
noncomputable def yb.V a0 a1 a2:=lim fun k=>yb.f k a0 a1 a2
theorem yb.v a0 a1 a2 {y} (h:yb.b yb.V0 a0 a1 a2=some y):yb.V a0 a1 a2=some y:=Le.v (by unfold yb.f yb.b;repeat (first | with_reducible first | exact Le.const | refine Le.bind ?_ fun _=>?_ | refine Le.cond ?_ ?_ | refine Le.elim (fun _=>?_) fun _=>?_ | exact Le.of rfl)) h
theorem yb.e (k:Nat) (x:Tup (sigTys yb.hd)):fnK T0 (yb.env k) [⟨0,yb.L0 k⟩] yb.C Tryz.f173 3 46 yb.hd yb.os x=yb.f k x.1 x.2.1 x.2.2:=by kernel_rfl
def yb.fn (k:Nat):Kn P0 G0:=⟨173,3,46,yb.hd,2,yb.os,fun x=>yb.f k x.1 x.2.1 x.2.2,contract (T:=T0) (fn:=Tryz.f173) hm0 hT0 (by kernel_rfl) (by kernel_rfl) (L:=[⟨0,yb.L0 k⟩]) (C:=yb.C) (by kernel_rfl) (by decide) rfl (by kernel_rfl) (loops_fn yb.d ⟨yb.s0 k,trivial⟩) (yb.e k),none⟩
def yh.hd:Sig:=[⟨false,0,(.imm (.list (.int .u32)))⟩,⟨false,1,(.imm (.list (.int .u32)))⟩]
def yh.os:List Sig:=[[⟨false,0,.nilS⟩,⟨false,1,.nilS⟩,⟨false,2,(.imm .bool)⟩],[⟨false,0,(.own 67 false 111 (.int .u32))⟩,⟨false,1,(.own 71 false 111 (.int .u32))⟩,⟨false,2,(.imm .bool)⟩]]
def yh.h0:Sig:=[⟨false,0,(.own 25 false 111 (.int .u32))⟩,⟨false,1,(.own 28 false 111 (.int .u32))⟩,⟨false,4,(.own 31 false 111 (.int .u32))⟩,⟨false,7,(.imm (.int .i64))⟩,⟨false,8,(.own 32 false 111 (.int .u32))⟩,⟨false,9,(.imm (.int .i64))⟩]
def yh.o0:Outs:=[((.exit 0),[⟨false,4,(.own 31 false 111 (.int .u32))⟩,⟨false,7,(.imm (.int .i64))⟩,⟨false,8,(.own 32 false 111 (.int .u32))⟩])]
def yh.C:List CutAt:=[]
def yh.env (k:Nat):List (Kn P0 G0):=[yo.fn k,yr.fn,xg.fn k,xN.fn,yb.fn k]
theorem yh.d:distN (loopIds (Tryz.f151.body.getD .skip) 0)=true:=by kernel_rfl
def yh.b0 (c0:LI→LI→Int→Option (LI × Int)) (c1:LI→LI→LI→Int→LI→Int→Option (LI × Int × LI)) (x0:LI) (x1:LI) (x2:LI) (x3:Int) (x4:LI) (x5:Int):Option (LI × Int × LI):=(bif (decide (x5 ≥ (0:Int))) then (bif (decide (((0:Int) ≤ (IntKind.wrap .i64 ((((List.length x1):Nat):Int) + (1:Int))))∧(((IntKind.wrap .i64 ((((List.length x1):Nat):Int) + (1:Int))) ≤ (IntKind.wrap .i64 ((((List.length x1):Nat):Int) + (1:Int))))∧((IntKind.wrap .i64 ((((List.length x1):Nat):Int) + (1:Int))) ≤ ((68719476736:Nat):Int))))) then (bif (decide (((0:Int) ≤ (1:Int))∧((1:Int) ≤ (((List.length (List.replicate (Int.toNat (IntKind.wrap .i64 ((((List.length x1):Nat):Int) + (1:Int)))) (0:Int))):Nat):Int)))) then (bif (decide (((0:Int) ≤ x5)∧(x5 < (((List.length x0):Nat):Int)))) then (bif (decide (((0:Int) ≤ (0:Int))∧((0:Int) < (((List.length (copyAt (Int.toNat (1:Int)) (Int.toNat ((((List.length (List.replicate (Int.toNat (IntKind.wrap .i64 ((((List.length x1):Nat):Int) + (1:Int)))) (0:Int))):Nat):Int) - (1:Int))) x4 (List.replicate (Int.toNat (IntKind.wrap .i64 ((((List.length x1):Nat):Int) + (1:Int)))) (0:Int)))):Nat):Int)))) then (Option.bind (xN.f (List.set (copyAt (Int.toNat (1:Int)) (Int.toNat ((((List.length (List.replicate (Int.toNat (IntKind.wrap .i64 ((((List.length x1):Nat):Int) + (1:Int)))) (0:Int))):Nat):Int) - (1:Int))) x4 (List.replicate (Int.toNat (IntKind.wrap .i64 ((((List.length x1):Nat):Int) + (1:Int)))) (0:Int))) (Int.toNat (0:Int)) (rdL (0:Int) x0 x5)) x1) fun y8=>(Option.bind (c0 (List.set (copyAt (Int.toNat (1:Int)) (Int.toNat ((((List.length (List.replicate (Int.toNat (IntKind.wrap .i64 ((((List.length x1):Nat):Int) + (1:Int)))) (0:Int))):Nat):Int) - (1:Int))) x4 (List.replicate (Int.toNat (IntKind.wrap .i64 ((((List.length x1):Nat):Int) + (1:Int)))) (0:Int))) (Int.toNat (0:Int)) (rdL (0:Int) x0 x5)) (x1,y8).1 (x1,y8).2) fun y9=>(bif (decide (((0:Int) ≤ x5)∧(x5 < (((List.length x2):Nat):Int)))) then (c1 x0 x1 (List.set x2 (Int.toNat x5) y9.2) x3 y9.1 (IntKind.wrap .i64 (x5 - (1:Int)))) else none))) else none) else none) else none) else none) else (some (x2,(x3,x4))))
def yh.l0:Nat→LI→LI→LI→Int→LI→Int→Option (LI × Int × LI)
 | 0,_,_,_,_,_,_=>none
 | k + 1,x0,x1,x2,x3,x4,x5=>yh.b0 (yb.f k) (yh.l0 k) x0 x1 x2 x3 x4 x5
noncomputable def yh.V0 x0 x1 x2 x3 x4 x5:=lim fun k=>yh.l0 k x0 x1 x2 x3 x4 x5
theorem yh.v0 x0 x1 x2 x3 x4 x5 {y} (h:yh.b0 yb.V yh.V0 x0 x1 x2 x3 x4 x5=some y):yh.V0 x0 x1 x2 x3 x4 x5=some y:=Le.v (.succ (by unfold yh.l0 yh.b0;repeat (first | with_reducible first | exact Le.const | refine Le.bind ?_ fun _=>?_ | refine Le.cond ?_ ?_ | refine Le.elim (fun _=>?_) fun _=>?_ | exact Le.of rfl))) h
def yh.L0 (k:Nat):LFn:=⟨yh.h0,yh.o0,fun x=>yh.l0 k x.1 x.2.1 x.2.2.1 x.2.2.2.1 x.2.2.2.2.1 x.2.2.2.2.2⟩
theorem yh.r0 (k:Nat) (x:Tup (sigTys yh.h0)):roundK T0 (yh.env k) 72 144 [] yh.C (loopOf Tryz.f151 0) 0 yh.h0 yh.o0 (yh.L0 k).f x=(yh.L0 (k + 1)).f x:=by kernel_rfl
theorem yh.s0 (k:Nat):LoopSound P0 G0 72 144 (sigPins yh.hd) (yh.L0 k) (loopOf Tryz.f151 0):=loop_rounds (T:=T0) hm0 hT0 (env:=fun k=>(yh.env k)) (nh:=144) (pn:=sigPins yh.hd) (L:=fun k=>[]) (C:=yh.C) (by kernel_rfl) (hd:=yh.h0) (os:=yh.o0) (by kernel_rfl) (by kernel_rfl) (by kernel_rfl) (g:=fun k=>(yh.L0 k).f) (fun k=>loops_in yh.d trivial) (fun _=>rfl) (fun k x=>yh.r0 k x) k
def yh.b (c0:LI→Option LI) (c1:LI→Int→Option LI) (c2:LI→LI→LI→Int→LI→Int→Option (LI × Int × LI)) (a0:LI) (a1:LI):Option (Bool ⊕ (LI × LI × Bool)):=(Option.bind (c0 a1) fun y3=>(bif ((((List.length y3):Nat):Int) == (0:Int)) then (some (Sum.inl false)) else (bif (decide (((0:Int) ≤ (IntKind.wrap .i64 ((((List.length y3):Nat):Int) - (1:Int))))∧((IntKind.wrap .i64 ((((List.length y3):Nat):Int) - (1:Int))) < (((List.length y3):Nat):Int)))) then (Option.bind (yr.f (rdL (0:Int) y3 (IntKind.wrap .i64 ((((List.length y3):Nat):Int) - (1:Int))))) fun y4=>(Option.bind (c1 a0 y4) fun y5=>(Option.bind (c1 y3 y4) fun y6=>(bif (decide (((0:Int) ≤ (((List.length y5):Nat):Int))∧(((((List.length y5):Nat):Int) ≤ (((List.length y5):Nat):Int))∧((((List.length y5):Nat):Int) ≤ ((68719476736:Nat):Int))))) then (Option.bind (c2 y5 (y6,((List.replicate (Int.toNat (((List.length y5):Nat):Int)) (0:Int)),(y4,(([]:LI),(IntKind.wrap .i64 ((((List.length y5):Nat):Int) - (1:Int))))))).1 (y6,((List.replicate (Int.toNat (((List.length y5):Nat):Int)) (0:Int)),(y4,(([]:LI),(IntKind.wrap .i64 ((((List.length y5):Nat):Int) - (1:Int))))))).2.1 (y6,((List.replicate (Int.toNat (((List.length y5):Nat):Int)) (0:Int)),(y4,(([]:LI),(IntKind.wrap .i64 ((((List.length y5):Nat):Int) - (1:Int))))))).2.2.1 (y6,((List.replicate (Int.toNat (((List.length y5):Nat):Int)) (0:Int)),(y4,(([]:LI),(IntKind.wrap .i64 ((((List.length y5):Nat):Int) - (1:Int))))))).2.2.2.1 (y6,((List.replicate (Int.toNat (((List.length y5):Nat):Int)) (0:Int)),(y4,(([]:LI),(IntKind.wrap .i64 ((((List.length y5):Nat):Int) - (1:Int))))))).2.2.2.2) fun y7=>(Option.bind (c0 y7.1) fun y8=>(Option.bind (c1 y7.2.2 (IntKind.wrap .i64 ((0:Int) - y7.2.1))) fun y9=>(some (Sum.inr (y8,(y9,true))))))) else none)))) else none)))
def yh.f (k:Nat) a0 a1:=yh.b (yo.f k) (xg.f k) (yh.l0 k) a0 a1
noncomputable def yh.V a0 a1:=lim fun k=>yh.f k a0 a1
theorem yh.v a0 a1 {y} (h:yh.b yo.V xg.V yh.V0 a0 a1=some y):yh.V a0 a1=some y:=Le.v (by unfold yh.f yh.b;repeat (first | with_reducible first | exact Le.const | refine Le.bind ?_ fun _=>?_ | refine Le.cond ?_ ?_ | refine Le.elim (fun _=>?_) fun _=>?_ | exact Le.of rfl)) h
theorem yh.e (k:Nat) (x:Tup (sigTys yh.hd)):fnK T0 (yh.env k) [⟨0,yh.L0 k⟩] yh.C Tryz.f151 2 144 yh.hd yh.os x=yh.f k x.1 x.2:=by kernel_rfl
def yh.fn (k:Nat):Kn P0 G0:=⟨151,2,144,yh.hd,3,yh.os,fun x=>yh.f k x.1 x.2,contract (T:=T0) (fn:=Tryz.f151) hm0 hT0 (by kernel_rfl) (by kernel_rfl) (L:=[⟨0,yh.L0 k⟩]) (C:=yh.C) (by kernel_rfl) (by decide) rfl (by kernel_rfl) (loops_fn yh.d ⟨yh.s0 k,trivial⟩) (yh.e k),none⟩
def yl.hd:Sig:=[⟨false,0,(.imm (.list (.int .u32)))⟩,⟨false,1,(.imm (.list (.int .u32)))⟩]
def yl.os:List Sig:=[[⟨false,0,(.own 9 false 111 (.int .u32))⟩]]
def yl.h0:Sig:=[⟨false,0,(.own 9 false 111 (.int .u32))⟩,⟨false,1,(.own 11 false 111 (.int .u32))⟩]
def yl.o0:Outs:=[((.exit 0),[⟨false,0,(.own 9 false 111 (.int .u32))⟩])]
def yl.C:List CutAt:=[]
def yl.env (k:Nat):List (Kn P0 G0):=[yo.fn k,yh.fn k]
theorem yl.d:distN (loopIds (Tryz.f111.body.getD .skip) 0)=true:=by kernel_rfl
def yl.b0 (c0:LI→LI→Option (Bool ⊕ (LI × LI × Bool))) (c1:LI→LI→Option LI) (x0:LI) (x1:LI):Option LI:=(bif (decide ((((List.length x1):Nat):Int) > (0:Int))) then (Option.bind (c0 x0 x1) fun y4=>(Sum.elim (fun y5=>none) (fun y5=>(c1 x1 y5.2.1)) y4)) else (some x0))
def yl.l0:Nat→LI→LI→Option LI
 | 0,_,_=>none
 | k + 1,x0,x1=>yl.b0 (yh.f k) (yl.l0 k) x0 x1
noncomputable def yl.V0 x0 x1:=lim fun k=>yl.l0 k x0 x1
theorem yl.v0 x0 x1 {y} (h:yl.b0 yh.V yl.V0 x0 x1=some y):yl.V0 x0 x1=some y:=Le.v (.succ (by unfold yl.l0 yl.b0;repeat (first | with_reducible first | exact Le.const | refine Le.bind ?_ fun _=>?_ | refine Le.cond ?_ ?_ | refine Le.elim (fun _=>?_) fun _=>?_ | exact Le.of rfl))) h
def yl.L0 (k:Nat):LFn:=⟨yl.h0,yl.o0,fun x=>yl.l0 k x.1 x.2⟩
theorem yl.r0 (k:Nat) (x:Tup (sigTys yl.h0)):roundK T0 (yl.env k) 25 50 [] yl.C (loopOf Tryz.f111 0) 0 yl.h0 yl.o0 (yl.L0 k).f x=(yl.L0 (k + 1)).f x:=by kernel_rfl
theorem yl.s0 (k:Nat):LoopSound P0 G0 25 50 (sigPins yl.hd) (yl.L0 k) (loopOf Tryz.f111 0):=loop_rounds (T:=T0) hm0 hT0 (env:=fun k=>(yl.env k)) (nh:=50) (pn:=sigPins yl.hd) (L:=fun k=>[]) (C:=yl.C) (by kernel_rfl) (hd:=yl.h0) (os:=yl.o0) (by kernel_rfl) (by kernel_rfl) (by kernel_rfl) (g:=fun k=>(yl.L0 k).f) (fun k=>loops_in yl.d trivial) (fun _=>rfl) (fun k x=>yl.r0 k x) k
def yl.b (c0:LI→Option LI) (c1:LI→LI→Option LI) (a0:LI) (a1:LI):Option LI:=(Option.bind (c0 a0) fun y3=>(Option.bind (c0 a1) fun y4=>(Option.bind (c1 y3 y4) fun y5=>(some y5))))
def yl.f (k:Nat) a0 a1:=yl.b (yo.f k) (yl.l0 k) a0 a1
noncomputable def yl.V a0 a1:=lim fun k=>yl.f k a0 a1
theorem yl.v a0 a1 {y} (h:yl.b yo.V yl.V0 a0 a1=some y):yl.V a0 a1=some y:=Le.v (by unfold yl.f yl.b;repeat (first | with_reducible first | exact Le.const | refine Le.bind ?_ fun _=>?_ | refine Le.cond ?_ ?_ | refine Le.elim (fun _=>?_) fun _=>?_ | exact Le.of rfl)) h
theorem yl.e (k:Nat) (x:Tup (sigTys yl.hd)):fnK T0 (yl.env k) [⟨0,yl.L0 k⟩] yl.C Tryz.f111 2 50 yl.hd yl.os x=yl.f k x.1 x.2:=by kernel_rfl
def yl.fn (k:Nat):Kn P0 G0:=⟨111,2,50,yl.hd,1,yl.os,fun x=>yl.f k x.1 x.2,contract (T:=T0) (fn:=Tryz.f111) hm0 hT0 (by kernel_rfl) (by kernel_rfl) (L:=[⟨0,yl.L0 k⟩]) (C:=yl.C) (by kernel_rfl) (by decide) rfl (by kernel_rfl) (loops_fn yl.d ⟨yl.s0 k,trivial⟩) (yl.e k),none⟩
def xn.hd:Sig:=[⟨false,0,(.imm (.int .u64))⟩]
def xn.os:List Sig:=[[⟨false,0,(.own 9 false 111 (.int .u32))⟩]]
def xn.C:List CutAt:=[]
def xn.env (k:Nat):List (Kn P0 G0):=[yo.fn k]
theorem xn.d:distN (loopIds (Tryz.f112.body.getD .skip) 0)=true:=by kernel_rfl
def xn.b (c0:LI→Option LI) (a0:Int):Option LI:=(Option.bind (c0 ((IntKind.wrap .u32 a0) :: ((IntKind.wrap .u32 (shrI .u64 a0 (32:Int))) :: ([]:LI)))) fun y2=>(some y2))
def xn.f (k:Nat) a0:=xn.b (yo.f k) a0
noncomputable def xn.V a0:=lim fun k=>xn.f k a0
theorem xn.v a0 {y} (h:xn.b yo.V a0=some y):xn.V a0=some y:=Le.v (by unfold xn.f xn.b;repeat (first | with_reducible first | exact Le.const | refine Le.bind ?_ fun _=>?_ | refine Le.cond ?_ ?_ | refine Le.elim (fun _=>?_) fun _=>?_ | exact Le.of rfl)) h
theorem xn.e (k:Nat) (x:Tup (sigTys xn.hd)):fnK T0 (xn.env k) [] xn.C Tryz.f112 1 20 xn.hd xn.os x=xn.f k x:=by kernel_rfl
def xn.fn (k:Nat):Kn P0 G0:=⟨112,1,20,xn.hd,1,xn.os,fun x=>xn.f k x,contract (T:=T0) (fn:=Tryz.f112) hm0 hT0 (by kernel_rfl) (by kernel_rfl) (L:=[]) (C:=xn.C) (by kernel_rfl) (by decide) rfl (by kernel_rfl) (loops_fn xn.d trivial) (xn.e k),none⟩
def yu.hd:Sig:=[⟨false,0,(.imm api_Rat)⟩]
def yu.os:List Sig:=[[⟨false,0,(.imm .bool)⟩]]
def yu.C:List CutAt:=[⟨1000002,[(.normal,[⟨false,3,(.imm (.list (.int .u32)))⟩,⟨false,4,(.imm (.list (.int .u32)))⟩,⟨false,42,(.imm .bool)⟩])]⟩]
def yu.env (k:Nat):List (Kn P0 G0):=[xE.fn,yl.fn k,xn.fn k,ye.fn k]
theorem yu.d:distN (loopIds (Tryz.f73.body.getD .skip) 0)=true:=by kernel_rfl
def yu.b (c0:LI→LI→Option LI) (c1:Int→Option LI) (c2:LI→LI→Option Int) (a0:RA):Option Bool:=(Option.bind (Option.bind (xE.f a0.1.2.1) fun y2=>(bif (!y2) then (some (a0.1.2.1,(a0.2.1,true))) else (Option.bind (xE.f a0.2.1) fun y3=>(bif (!y3) then (some (a0.1.2.1,(a0.2.1,true))) else (bif ((((List.length a0.2.1):Nat):Int) == (0:Int)) then (some (a0.1.2.1,(a0.2.1,true))) else (bif (decide ((((List.length a0.2.1):Nat):Int) > (64:Int))) then (some (a0.1.2.1,(a0.2.1,true))) else (bif (decide ((((List.length a0.1.2.1):Nat):Int) > (64:Int))) then (some (a0.1.2.1,(a0.2.1,true))) else (bif a0.1.1 then (some (a0.1.2.1,(a0.2.1,((((List.length a0.1.2.1):Nat):Int) == (0:Int))))) else (some (a0.1.2.1,(a0.2.1,false))))))))))) fun y2=>(bif y2.2.2 then (some false) else (Option.bind (c0 y2.1 y2.2.1) fun y3=>(Option.bind (c1 (1:Int)) fun y4=>(Option.bind (c2 y3 y4) fun y5=>(some (y5 == (0:Int))))))))
def yu.f (k:Nat) a0:=yu.b (yl.f k) (xn.f k) (ye.f k) a0
noncomputable def yu.V a0:=lim fun k=>yu.f k a0
theorem yu.v a0 {y} (h:yu.b yl.V xn.V ye.V a0=some y):yu.V a0=some y:=Le.v (by unfold yu.f yu.b;repeat (first | with_reducible first | exact Le.const | refine Le.bind ?_ fun _=>?_ | refine Le.cond ?_ ?_ | refine Le.elim (fun _=>?_) fun _=>?_ | exact Le.of rfl)) h
theorem yu.e (k:Nat) (x:Tup (sigTys yu.hd)):fnK T0 (yu.env k) [] yu.C Tryz.f73 1 98 yu.hd yu.os x=yu.f k x:=by kernel_rfl
def yu.fn (k:Nat):Kn P0 G0:=⟨73,1,98,yu.hd,1,yu.os,fun x=>yu.f k x,contract (T:=T0) (fn:=Tryz.f73) hm0 hT0 (by kernel_rfl) (by kernel_rfl) (L:=[]) (C:=yu.C) (by kernel_rfl) (by decide) rfl (by kernel_rfl) (loops_fn yu.d trivial) (yu.e k),none⟩
def xO.hd:Sig:=[⟨false,0,(.imm api_Rat)⟩]
def xO.os:List Sig:=[[⟨false,0,(.imm .bool)⟩]]
def xO.C:List CutAt:=[⟨1000001,[(.normal,[⟨false,2,(.imm .bool)⟩])]⟩]
def xO.env:List (Kn P0 G0):=[]
theorem xO.d:distN (loopIds (Tryz.f133.body.getD .skip) 0)=true:=by kernel_rfl
def xO.f (a0:RA):Option Bool:=(Option.bind (bif (!a0.1.1) then (bif ((((List.length a0.1.2.1):Nat):Int) == (0:Int)) then (some ((((List.length a0.2.1):Nat):Int) == (0:Int))) else (some false)) else (some false)) fun y1=>(some y1))
theorem xO.e (x:Tup (sigTys xO.hd)):fnK T0 xO.env [] xO.C Tryz.f133 1 40 xO.hd xO.os x=xO.f x:=by kernel_rfl
def xO.fn:Kn P0 G0:=⟨133,1,40,xO.hd,1,xO.os,fun x=>xO.f x,contract (T:=T0) (fn:=Tryz.f133) hm0 hT0 (by kernel_rfl) (by kernel_rfl) (L:=[]) (C:=xO.C) (by kernel_rfl) (by decide) rfl (by kernel_rfl) (loops_fn xO.d trivial) (xO.e),none⟩
def xa.hd:Sig:=[⟨false,0,(.imm api_Term)⟩,⟨false,1,(.imm (.int .i64))⟩]
def xa.os:List Sig:=[[⟨false,0,(.imm .bool)⟩]]
def xa.C:List CutAt:=[⟨1000018,[(.normal,[⟨false,4,(.imm .bool)⟩])]⟩,⟨1000013,[(.normal,[⟨false,4,(.imm .bool)⟩])]⟩]
def xa.env (k:Nat):List (Kn P0 G0):=[yU.fn,yu.fn k,xO.fn]
theorem xa.d:distN (loopIds (Tryz.f95.body.getD .skip) 0)=true:=by kernel_rfl
def xa.b (c0:RA→Option Bool) (a0:TE) (a1:Int):Option Bool:=(bif (a0.1 == (1:Int)) then (bif (eqv core_face (a0.1,(a0.2.1,(a0.2.2.1,(a0.2.2.2.1,())))) ((1:Int),((0:Int),((0:Int),((0:Int),()))))) then (Option.bind (c0 a0.2.2.2.2.1) fun y3=>(some y3)) else (some false)) else (Option.bind (xO.f a0.2.2.2.2.1) fun y3=>(bif (!y3) then (some false) else (bif (a0.1 == (2:Int)) then (bif (eqv core_face (a0.1,(a0.2.1,(a0.2.2.1,(a0.2.2.2.1,())))) ((2:Int),((0:Int),((0:Int),(a0.2.2.2.1,()))))) then (some (decide (a0.2.2.2.1 ≥ (0:Int)))) else (some false)) else (bif (a0.1 == (7:Int)) then (bif (eqv core_face (a0.1,(a0.2.1,(a0.2.2.1,(a0.2.2.2.1,())))) ((7:Int),(a0.2.1,((0:Int),((0:Int),()))))) then (Option.bind (yU.f a1 a0.2.1) fun y4=>(some y4.2)) else (some false)) else (bif (a0.1 == (8:Int)) then (Option.bind (bif (eqv core_face (a0.1,(a0.2.1,(a0.2.2.1,(a0.2.2.2.1,())))) ((8:Int),(a0.2.1,((0:Int),(a0.2.2.2.1,()))))) then (Option.bind (yU.f a1 a0.2.1) fun y4=>(bif y4.2 then (bif (decide (a0.2.2.2.1 ≥ (-(128:Int)))) then (some (decide (a0.2.2.2.1 ≤ (128:Int)))) else (some false)) else (some false))) else (some false)) fun y4=>(some y4)) else (bif (a0.1 == (3:Int)) then (Option.bind (bif (a0.2.2.2.1 == (0:Int)) then (Option.bind (yU.f a1 a0.2.1) fun y4=>(bif y4.2 then (Option.bind (yU.f y4.1 a0.2.2.1) fun y5=>(some y5.2)) else (some false))) else (some false)) fun y4=>(some y4)) else (bif (a0.1 == (4:Int)) then (Option.bind (bif (a0.2.2.2.1 == (0:Int)) then (Option.bind (yU.f a1 a0.2.1) fun y4=>(bif y4.2 then (Option.bind (yU.f y4.1 a0.2.2.1) fun y5=>(some y5.2)) else (some false))) else (some false)) fun y4=>(some y4)) else (bif (a0.1 == (5:Int)) then (Option.bind (bif (a0.2.2.2.1 == (0:Int)) then (Option.bind (yU.f a1 a0.2.1) fun y4=>(bif y4.2 then (Option.bind (yU.f y4.1 a0.2.2.1) fun y5=>(some y5.2)) else (some false))) else (some false)) fun y4=>(some y4)) else (bif (a0.1 == (6:Int)) then (Option.bind (bif (a0.2.2.2.1 == (0:Int)) then (Option.bind (yU.f a1 a0.2.1) fun y4=>(bif y4.2 then (Option.bind (yU.f y4.1 a0.2.2.1) fun y5=>(some y5.2)) else (some false))) else (some false)) fun y4=>(some y4)) else (some false)))))))))))
def xa.f (k:Nat) a0 a1:=xa.b (yu.f k) a0 a1
noncomputable def xa.V a0 a1:=lim fun k=>xa.f k a0 a1
theorem xa.v a0 a1 {y} (h:xa.b yu.V a0 a1=some y):xa.V a0 a1=some y:=Le.v (by unfold xa.f xa.b;repeat (first | with_reducible first | exact Le.const | refine Le.bind ?_ fun _=>?_ | refine Le.cond ?_ ?_ | refine Le.elim (fun _=>?_) fun _=>?_ | exact Le.of rfl)) h
theorem xa.e (k:Nat) (x:Tup (sigTys xa.hd)):fnK T0 (xa.env k) [] xa.C Tryz.f95 2 208 xa.hd xa.os x=xa.f k x.1 x.2:=by kernel_rfl
def xa.fn (k:Nat):Kn P0 G0:=⟨95,2,208,xa.hd,1,xa.os,fun x=>xa.f k x.1 x.2,contract (T:=T0) (fn:=Tryz.f95) hm0 hT0 (by kernel_rfl) (by kernel_rfl) (L:=[]) (C:=xa.C) (by kernel_rfl) (by decide) rfl (by kernel_rfl) (loops_fn xa.d trivial) (xa.e k),none⟩
def zR.hd:Sig:=[⟨false,0,(.imm (.list api_Term))⟩]
def zR.os:List Sig:=[[⟨false,0,(.imm .bool)⟩]]
def zR.h0:Sig:=[⟨false,5,(.imm (.list api_Term))⟩,⟨false,6,(.imm (.int .i64))⟩,⟨false,7,(.imm (.int .i64))⟩]
def zR.o0:Outs:=[((.exit 0),[]),(.ret,[⟨false,2,(.imm .bool)⟩])]
def zR.C:List CutAt:=[]
def zR.env (k:Nat):List (Kn P0 G0):=[xa.fn k]
theorem zR.d:distN (loopIds (Tryz.f50.body.getD .skip) 0)=true:=by kernel_rfl
def zR.b0 (c0:TE→Int→Option Bool) (c1:CO→Int→Int→Option ((Unit) ⊕ Bool)) (x0:CO) (x1:Int) (x2:Int):Option ((Unit) ⊕ Bool):=(bif (decide (x2 < x1)) then (bif (decide (((0:Int) ≤ x2)∧(x2 < (((List.length x0):Nat):Int)))) then (Option.bind (c0 (rdL (Ty.zero api_Term) x0 x2) x2) fun y5=>(bif (!y5) then (some (Sum.inr false)) else (c1 x0 x1 (IntKind.wrap .i64 (x2 + (1:Int)))))) else none) else (some (Sum.inl ())))
def zR.l0:Nat→CO→Int→Int→Option ((Unit) ⊕ Bool)
 | 0,_,_,_=>none
 | k + 1,x0,x1,x2=>zR.b0 (xa.f k) (zR.l0 k) x0 x1 x2
noncomputable def zR.V0 x0 x1 x2:=lim fun k=>zR.l0 k x0 x1 x2
theorem zR.v0 x0 x1 x2 {y} (h:zR.b0 xa.V zR.V0 x0 x1 x2=some y):zR.V0 x0 x1 x2=some y:=Le.v (.succ (by unfold zR.l0 zR.b0;repeat (first | with_reducible first | exact Le.const | refine Le.bind ?_ fun _=>?_ | refine Le.cond ?_ ?_ | refine Le.elim (fun _=>?_) fun _=>?_ | exact Le.of rfl))) h
def zR.L0 (k:Nat):LFn:=⟨zR.h0,zR.o0,fun x=>zR.l0 k x.1 x.2.1 x.2.2⟩
theorem zR.r0 (k:Nat) (x:Tup (sigTys zR.h0)):roundK T0 (zR.env k) 17 34 [] zR.C (loopOf Tryz.f50 0) 0 zR.h0 zR.o0 (zR.L0 k).f x=(zR.L0 (k + 1)).f x:=by kernel_rfl
theorem zR.s0 (k:Nat):LoopSound P0 G0 17 34 (sigPins zR.hd) (zR.L0 k) (loopOf Tryz.f50 0):=loop_rounds (T:=T0) hm0 hT0 (env:=fun k=>(zR.env k)) (nh:=34) (pn:=sigPins zR.hd) (L:=fun k=>[]) (C:=zR.C) (by kernel_rfl) (hd:=zR.h0) (os:=zR.o0) (by kernel_rfl) (by kernel_rfl) (by kernel_rfl) (g:=fun k=>(zR.L0 k).f) (fun k=>loops_in zR.d trivial) (fun _=>rfl) (fun k x=>zR.r0 k x) k
def zR.b (c0:CO→Int→Int→Option ((Unit) ⊕ Bool)) (a0:CO):Option Bool:=(Option.bind (c0 a0 ((((List.length a0):Nat):Int),(0:Int)).1 ((((List.length a0):Nat):Int),(0:Int)).2) fun y2=>(Sum.elim (fun y3=>(some true)) (fun y3=>(some y3)) y2))
def zR.f (k:Nat) a0:=zR.b (zR.l0 k) a0
noncomputable def zR.V a0:=lim fun k=>zR.f k a0
theorem zR.v a0 {y} (h:zR.b zR.V0 a0=some y):zR.V a0=some y:=Le.v (by unfold zR.f zR.b;repeat (first | with_reducible first | exact Le.const | refine Le.bind ?_ fun _=>?_ | refine Le.cond ?_ ?_ | refine Le.elim (fun _=>?_) fun _=>?_ | exact Le.of rfl)) h
theorem zR.e (k:Nat) (x:Tup (sigTys zR.hd)):fnK T0 (zR.env k) [⟨0,zR.L0 k⟩] zR.C Tryz.f50 1 34 zR.hd zR.os x=zR.f k x:=by kernel_rfl
def zR.fn (k:Nat):Kn P0 G0:=⟨50,1,34,zR.hd,1,zR.os,fun x=>zR.f k x,contract (T:=T0) (fn:=Tryz.f50) hm0 hT0 (by kernel_rfl) (by kernel_rfl) (L:=[⟨0,zR.L0 k⟩]) (C:=zR.C) (by kernel_rfl) (by decide) rfl (by kernel_rfl) (loops_fn zR.d ⟨zR.s0 k,trivial⟩) (zR.e k),none⟩
def xe.hd:Sig:=[⟨false,0,(.imm api_Term)⟩]
def xe.os:List Sig:=[[⟨false,0,(.own 10 false 3 (.int .i64))⟩],[⟨false,0,.nilS⟩]]
def xe.C:List CutAt:=[]
def xe.env:List (Kn P0 G0):=[]
theorem xe.d:distN (loopIds (Tryz.f51.body.getD .skip) 0)=true:=by kernel_rfl
def xe.f (a0:TE):Option (LI ⊕ (Unit)):=(bif (a0.1 == (7:Int)) then (some (Sum.inl (a0.2.1 :: ([]:LI)))) else (bif (a0.1 == (8:Int)) then (some (Sum.inl (a0.2.1 :: ([]:LI)))) else (bif (a0.1 == (3:Int)) then (some (Sum.inl (a0.2.1 :: (a0.2.2.1 :: ([]:LI))))) else (bif (a0.1 == (4:Int)) then (some (Sum.inl (a0.2.1 :: (a0.2.2.1 :: ([]:LI))))) else (bif (a0.1 == (5:Int)) then (some (Sum.inl (a0.2.1 :: (a0.2.2.1 :: ([]:LI))))) else (bif (a0.1 == (6:Int)) then (some (Sum.inl (a0.2.1 :: (a0.2.2.1 :: ([]:LI))))) else (some (Sum.inl ([]:LI)))))))))
theorem xe.e (x:Tup (sigTys xe.hd)):fnK T0 xe.env [] xe.C Tryz.f51 1 42 xe.hd xe.os x=xe.f x:=by kernel_rfl
def xe.fn:Kn P0 G0:=⟨51,1,42,xe.hd,1,xe.os,fun x=>xe.f x,contract (T:=T0) (fn:=Tryz.f51) hm0 hT0 (by kernel_rfl) (by kernel_rfl) (L:=[]) (C:=xe.C) (by kernel_rfl) (by decide) rfl (by kernel_rfl) (loops_fn xe.d trivial) (xe.e),none⟩
end
end Go.Proofs.YtlfcdmibknmjeaaGreatDoor.E
