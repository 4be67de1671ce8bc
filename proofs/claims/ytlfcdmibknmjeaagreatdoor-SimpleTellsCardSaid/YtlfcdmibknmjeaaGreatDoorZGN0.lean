import Derived.Test.YtlfcdmibknmjeaaGreatDoorZEvA2
import Derived.Test.YtlfcdmibknmjeaaGreatDoorProg
import Derived.Test.YtlfcdmibknmjeaaGreatDoorZSrA
namespace Go.Proofs.YtlfcdmibknmjeaaGreatDoor.E
open Go Go.Proofs.YtlfcdmibknmjeaaGreatDoor.Ev
set_option linter.unusedVariables false
set_option maxRecDepth 100000
set_option maxHeartbeats 2000000
noncomputable section
noncomputable abbrev P0 : Program := Tryz.prog
theorem hm0 : P0.follows .mixedOrders = true := by kernel_rfl
abbrev T216 : Ty := (.arr 0 .opq)
abbrev T140 : Ty := (.arr 2 .bool)
abbrev internal_runtime_maps_unhashableTypeError : Ty := (.pair .opq .unit)
abbrev errors_errorString : Ty := (.pair .str .unit)
abbrev T183 : Ty := (.arr 10 (.int .u32))
abbrev runtime_errorAddressString : Ty := (.pair .str (.pair (.int .u64) .unit))
abbrev internal_sync_Mutex : Ty := (.pair (.int .i32) (.pair (.int .u32) .unit))
abbrev api_Int : Ty := (.pair .bool (.pair (.list (.int .u32)) .unit))
abbrev runtime_TypeAssertionError : Ty := (.pair .opq (.pair .opq (.pair .opq (.pair .str .unit))))
abbrev ref03_Got : Ty := (.pair (.list (.int .u32)) (.pair (.list (.int .u32)) (.pair .bool .unit)))
abbrev runtime_boundsError : Ty := (.pair (.int .i64) (.pair (.int .i64) (.pair .bool (.pair (.int .u8) .unit))))
abbrev core_face : Ty := (.pair (.int .i64) (.pair (.int .i64) (.pair (.int .i64) (.pair (.int .i64) .unit))))
abbrev api_Rat : Ty := (.pair api_Int (.pair (.list (.int .u32)) .unit))
abbrev simple_face : Ty := (.pair (.int .i64) (.pair (.int .i64) (.pair (.int .i64) (.pair (.int .i64) (.pair .str .unit)))))
abbrev ref07_Got : Ty := (.pair api_Rat (.pair (.int .i64) .unit))
abbrev api_Term : Ty := (.pair (.int .i64) (.pair (.int .i64) (.pair (.int .i64) (.pair (.int .i64) (.pair api_Rat .unit)))))
abbrev ref22_maker : Ty := (.pair (.list api_Term) .unit)
abbrev internal_abi_Type : Ty := (.pair (.int .u64) (.pair (.int .u64) (.pair (.int .u32) (.pair (.int .u8) (.pair (.int .u8) (.pair (.int .u8) (.pair (.int .u8) (.pair .opq (.pair .opq (.pair (.int .i32) (.pair (.int .i32) .unit)))))))))))
abbrev simple_maker : Ty := (.pair (.list api_Term) (.pair .opq .unit))
abbrev ref22_Got : Ty := (.pair (.list api_Term) (.pair (.int .i64) (.pair (.int .i64) .unit)))
abbrev diff_maker : Ty := (.pair (.list api_Term) (.pair (.list .bool) (.pair (.list (.int .i64)) (.pair .bool .unit))))
abbrev LI := List Int
abbrev RA := Ty.denote api_Rat
abbrev TE := Ty.denote api_Term
abbrev WH := Ty.denote api_Int
abbrev CO := List TE
abbrev MP := List (Ty.denote simple_face × Int)
def gv0 : Ty.denote T183 := [(1 : Int),(10 : Int),(100 : Int),(1000 : Int),(10000 : Int),(100000 : Int),(1000000 : Int),(10000000 : Int),(100000000 : Int),(1000000000 : Int)]
def G0 : List GV := [⟨0,T183,gv0⟩]
def T0 : Tab := [⟨1,.opq,0,false,none⟩,⟨2,(.int .i64),0,false,none⟩,⟨3,(.int .i64),0,false,none⟩,⟨4,.bool,0,false,none⟩,⟨5,(.int .u8),0,false,none⟩,⟨6,(.int .u8),0,false,none⟩,⟨7,runtime_boundsError,0,true,none⟩,⟨8,runtime_boundsError,0,true,none⟩,⟨9,.str,0,false,none⟩,⟨10,.str,0,false,none⟩,⟨11,.str,0,false,none⟩,⟨12,(.int .u64),0,false,none⟩,⟨13,runtime_errorAddressString,0,false,none⟩,⟨14,runtime_errorAddressString,0,false,none⟩,⟨15,.opq,0,true,none⟩,⟨16,.opq,0,true,none⟩,⟨17,.opq,0,true,none⟩,⟨18,internal_runtime_maps_unhashableTypeError,0,false,none⟩,⟨19,internal_runtime_maps_unhashableTypeError,0,false,none⟩,⟨20,.opq,0,false,none⟩,⟨21,(.int .i32),0,false,none⟩,⟨22,(.list api_Term),42,false,none⟩,⟨23,(.list api_Term),42,false,none⟩,⟨24,.opq,0,false,none⟩,⟨25,.opq,0,false,none⟩,⟨26,.opq,0,false,none⟩,⟨27,(.int .i64),0,false,none⟩,⟨29,.opq,0,false,none⟩,⟨30,ref22_Got,0,false,none⟩,⟨31,ref22_Got,0,false,none⟩,⟨32,.opq,0,false,none⟩,⟨33,.opq,0,false,none⟩,⟨34,.opq,0,false,none⟩,⟨35,(.list (.int .u32)),111,false,none⟩,⟨36,(.list (.int .u32)),111,false,none⟩,⟨37,api_Int,0,false,none⟩,⟨38,api_Int,0,false,none⟩,⟨39,api_Rat,0,false,none⟩,⟨40,api_Rat,0,false,none⟩,⟨41,api_Term,0,false,none⟩,⟨42,api_Term,0,false,none⟩,⟨43,.opq,0,false,none⟩,⟨44,.opq,0,false,none⟩,⟨45,.opq,0,false,none⟩,⟨46,.opq,0,false,none⟩,⟨47,(.list api_Rat),40,false,none⟩,⟨48,.opq,0,false,none⟩,⟨50,.opq,0,false,none⟩,⟨51,.opq,0,false,none⟩,⟨52,.opq,0,false,none⟩,⟨53,.opq,0,false,none⟩,⟨54,.opq,0,false,none⟩,⟨55,.opq,0,false,none⟩,⟨56,.opq,0,false,none⟩,⟨57,.opq,0,false,none⟩,⟨58,.opq,0,false,none⟩,⟨59,(.list .bool),4,false,none⟩,⟨60,.opq,0,false,none⟩,⟨61,.opq,0,true,none⟩,⟨62,.opq,0,false,(some ⟨143,simple_face,3,(.int .i64)⟩)⟩,⟨63,simple_maker,0,false,none⟩,⟨64,simple_maker,0,false,none⟩,⟨65,(.list (.int .i64)),3,false,none⟩,⟨66,.opq,0,false,none⟩,⟨67,.opq,0,true,none⟩,⟨68,ref22_maker,0,false,none⟩,⟨69,ref22_maker,0,false,none⟩,⟨70,.opq,0,false,none⟩,⟨71,.opq,0,false,none⟩,⟨72,.opq,0,false,none⟩,⟨73,.opq,0,false,none⟩,⟨74,.opq,0,false,none⟩,⟨75,.opq,0,false,none⟩,⟨76,.opq,0,false,none⟩,⟨77,.opq,0,false,none⟩,⟨78,.opq,0,true,none⟩,⟨80,.opq,0,false,none⟩,⟨81,.unit,0,false,none⟩,⟨82,.unit,0,false,none⟩,⟨83,.unit,0,false,none⟩,⟨88,.opq,0,false,none⟩,⟨89,.opq,0,false,none⟩,⟨90,.opq,0,true,none⟩,⟨91,.opq,0,false,none⟩,⟨92,diff_maker,0,false,none⟩,⟨93,diff_maker,0,false,none⟩,⟨94,.opq,0,false,none⟩,⟨95,ref07_Got,0,false,none⟩,⟨96,ref07_Got,0,false,none⟩,⟨97,.opq,0,false,none⟩,⟨98,.opq,0,false,none⟩,⟨99,.opq,0,false,none⟩,⟨100,.opq,0,false,none⟩,⟨101,.opq,0,false,none⟩,⟨102,.opq,0,false,none⟩,⟨103,.opq,0,false,none⟩,⟨104,.opq,0,false,none⟩,⟨105,ref07_Got,0,false,none⟩,⟨106,ref07_Got,0,false,none⟩,⟨107,.opq,0,false,none⟩,⟨108,.opq,0,false,none⟩,⟨109,.opq,0,false,none⟩,⟨110,.opq,0,false,none⟩,⟨111,(.int .u32),0,false,none⟩,⟨112,.opq,0,false,none⟩,⟨113,.opq,0,false,none⟩,⟨114,.opq,0,false,none⟩,⟨115,.opq,0,true,none⟩,⟨116,.opq,0,false,none⟩,⟨117,.opq,0,true,none⟩,⟨118,.opq,0,true,none⟩,⟨119,.unit,0,false,none⟩,⟨122,internal_sync_Mutex,0,true,none⟩,⟨123,internal_sync_Mutex,0,true,none⟩,⟨130,.opq,0,false,none⟩,⟨131,.opq,0,false,none⟩,⟨132,.opq,0,false,none⟩,⟨133,.opq,0,false,none⟩,⟨134,.opq,0,false,none⟩,⟨136,.opq,0,false,none⟩,⟨138,.opq,0,false,none⟩,⟨139,(.list (.int .i64)),2,false,none⟩,⟨140,T140,0,true,none⟩,⟨141,.opq,0,false,none⟩,⟨142,simple_face,0,true,none⟩,⟨143,simple_face,0,true,none⟩,⟨144,.opq,0,false,none⟩,⟨145,.opq,0,false,none⟩,⟨146,ref03_Got,0,false,none⟩,⟨147,ref03_Got,0,false,none⟩,⟨148,.opq,0,false,none⟩,⟨149,.opq,0,false,none⟩,⟨150,.opq,0,false,none⟩,⟨151,(.int .u64),0,false,none⟩,⟨152,.opq,0,false,none⟩,⟨153,.opq,0,false,none⟩,⟨154,.opq,0,false,none⟩,⟨155,.opq,0,false,none⟩,⟨156,.opq,0,false,none⟩,⟨157,.opq,0,false,none⟩,⟨159,.opq,0,false,none⟩,⟨160,.opq,0,false,none⟩,⟨161,.opq,0,false,none⟩,⟨162,core_face,0,true,none⟩,⟨163,core_face,0,true,none⟩,⟨165,.opq,0,false,none⟩,⟨166,.opq,0,false,none⟩,⟨167,.opq,0,false,none⟩,⟨168,.opq,0,false,none⟩,⟨169,.opq,0,false,none⟩,⟨170,.opq,0,false,none⟩,⟨171,.opq,0,false,none⟩,⟨172,(.int .u64),0,false,none⟩,⟨173,.opq,0,false,none⟩,⟨175,.opq,0,false,none⟩,⟨176,.opq,0,false,none⟩,⟨177,.opq,0,false,none⟩,⟨178,.opq,0,true,none⟩,⟨179,.opq,0,false,none⟩,⟨180,(.list (.int .u8)),5,false,none⟩,⟨182,.opq,0,false,none⟩,⟨183,T183,0,true,none⟩,⟨184,.opq,0,false,none⟩,⟨185,.opq,0,false,none⟩,⟨186,.opq,0,false,none⟩,⟨187,.opq,0,false,none⟩,⟨189,.opq,0,false,none⟩,⟨190,.opq,0,false,none⟩,⟨192,.opq,0,false,none⟩,⟨193,.opq,0,false,none⟩,⟨194,.opq,0,true,none⟩,⟨195,.opq,0,false,none⟩,⟨196,.opq,0,true,none⟩,⟨197,.opq,0,false,none⟩,⟨198,.opq,0,true,none⟩,⟨199,.opq,0,false,none⟩,⟨200,.opq,0,false,none⟩,⟨201,.opq,0,false,none⟩,⟨202,.opq,0,false,none⟩,⟨203,.opq,0,true,none⟩,⟨204,.opq,0,false,none⟩,⟨205,.opq,0,true,none⟩,⟨206,.opq,0,false,none⟩,⟨207,.opq,0,false,none⟩,⟨208,.opq,0,false,none⟩,⟨209,.opq,0,false,none⟩,⟨210,.opq,0,false,none⟩,⟨211,.opq,0,false,none⟩,⟨212,.opq,0,true,none⟩,⟨213,.opq,0,false,none⟩,⟨214,runtime_TypeAssertionError,0,false,none⟩,⟨215,runtime_TypeAssertionError,0,false,none⟩,⟨216,T216,0,false,none⟩,⟨219,.opq,0,false,none⟩,⟨220,(.int .u8),0,false,none⟩,⟨221,(.int .u8),0,false,none⟩,⟨222,.opq,0,false,none⟩,⟨223,.opq,0,true,none⟩,⟨224,(.int .i32),0,false,none⟩,⟨225,(.int .i32),0,false,none⟩,⟨226,internal_abi_Type,0,false,none⟩,⟨227,internal_abi_Type,0,false,none⟩,⟨228,errors_errorString,0,true,none⟩,⟨229,errors_errorString,0,true,none⟩]
theorem hT0 : tabChk P0 T0 = true := by kernel_rfl
def wd.rw : RowFn P0 166 := ⟨(.int .u8),List.reverse,fun _ => List.length_reverse,revHolds⟩
def wd.fn : Kn P0 G0 := ⟨166,1,1,[⟨false,0,.own 0 false 0 (.int .u8)⟩],0,[],fun _ => none,⟨by kernel_rfl,fun _ _ _ _ _ _ _ _ _ h => by cases h⟩,some wd.rw⟩
def xt.hd : Sig := [⟨false,0,(.imm api_Rat)⟩]
def xt.os : List Sig := [[⟨false,0,(.imm .bool)⟩]]
def xt.C : List CutAt := []
def xt.env : List (Kn P0 G0) := []
theorem xt.d : distN (loopIds (Tryz.f22.body.getD .skip) 0) = true := by kernel_rfl
def xt.f (a0 : RA) : Option Bool := (bif (decide ((((List.length a0.1.2.1) : Nat) : Int) > (200 : Int))) then (some true) else (some (decide ((((List.length a0.2.1) : Nat) : Int) > (200 : Int)))))
theorem xt.e (x : Tup (sigTys xt.hd)) : fnK T0 xt.env [] xt.C Tryz.f22 1 28 xt.hd xt.os x = xt.f x := by kernel_rfl
def xt.fn : Kn P0 G0 := ⟨22,1,28,xt.hd,1,xt.os,fun x => xt.f x,contract (T := T0) (fn := Tryz.f22) hm0 hT0 (by kernel_rfl) (by kernel_rfl) (L := []) (C := xt.C) (by kernel_rfl) (by decide) rfl (by kernel_rfl) (loops_fn xt.d trivial) (xt.e),none⟩
def zk.hd : Sig := [⟨false,0,(.imm (.list api_Term))⟩]
def zk.os : List Sig := [[⟨false,0,(.imm .bool)⟩]]
def zk.h0 : Sig := [⟨false,0,(.imm (.list api_Term))⟩,⟨false,3,(.imm (.int .i64))⟩,⟨false,4,(.imm (.int .i64))⟩]
def zk.o0 : Outs := [((.exit 0),[⟨false,3,(.imm (.int .i64))⟩]),(.ret,[⟨false,2,(.imm .bool)⟩])]
def zk.C : List CutAt := []
def zk.env (k : Nat) : List (Kn P0 G0) := [xt.fn]
theorem zk.d : distN (loopIds (Tryz.f8.body.getD .skip) 0) = true := by kernel_rfl
def zk.b0 (c0 : CO → Int → Int → Option (Int ⊕ Bool)) (x0 : CO) (x1 : Int) (x2 : Int) : Option (Int ⊕ Bool) := (bif (decide (x2 < (((List.length x0) : Nat) : Int))) then (bif (decide (((0 : Int) ≤ x2) ∧ (x2 < (((List.length x0) : Nat) : Int)))) then (Option.bind (xt.f (rdL (Ty.zero api_Term) x0 x2).2.2.2.2.1) fun y5 => (bif y5 then (some (Sum.inr true)) else (bif (decide (((0 : Int) ≤ x2) ∧ (x2 < (((List.length x0) : Nat) : Int)))) then (bif (decide (((0 : Int) ≤ x2) ∧ (x2 < (((List.length x0) : Nat) : Int)))) then (c0 x0 (IntKind.wrap .i64 (x1 + (IntKind.wrap .i64 ((((List.length (rdL (Ty.zero api_Term) x0 x2).2.2.2.2.1.1.2.1) : Nat) : Int) + (((List.length (rdL (Ty.zero api_Term) x0 x2).2.2.2.2.1.2.1) : Nat) : Int))))) (IntKind.wrap .i64 (x2 + (1 : Int)))) else none) else none))) else none) else (some (Sum.inl x1)))
def zk.l0 : Nat → CO → Int → Int → Option (Int ⊕ Bool)
 | 0,_,_,_ => none
 | k + 1,x0,x1,x2 => zk.b0 (zk.l0 k) x0 x1 x2
noncomputable def zk.V0 x0 x1 x2 := lim fun k => zk.l0 k x0 x1 x2
theorem zk.v0 x0 x1 x2 {y} (h : zk.b0 zk.V0 x0 x1 x2 = some y) : zk.V0 x0 x1 x2 = some y := Le.v (.succ (by unfold zk.l0 zk.b0;repeat (first | with_reducible first | exact Le.const | refine Le.bind ?_ fun _ => ?_ | refine Le.cond ?_ ?_ | refine Le.elim (fun _ => ?_) fun _ => ?_ | exact Le.of rfl))) h
def zk.L0 (k : Nat) : LFn := ⟨zk.h0,zk.o0,fun x => zk.l0 k x.1 x.2.1 x.2.2⟩
theorem zk.r0 (k : Nat) (x : Tup (sigTys zk.h0)) : roundK T0 (zk.env k) 40 80 [] zk.C (loopOf Tryz.f8 0) 0 zk.h0 zk.o0 (zk.L0 k).f x = (zk.L0 (k + 1)).f x := by kernel_rfl
theorem zk.s0 (k : Nat) : LoopSound P0 G0 40 80 (sigPins zk.hd) (zk.L0 k) (loopOf Tryz.f8 0) := loop_rounds (T := T0) hm0 hT0 (env := fun k => (zk.env k)) (nh := 80) (pn := sigPins zk.hd) (L := fun k => []) (C := zk.C) (by kernel_rfl) (hd := zk.h0) (os := zk.o0) (by kernel_rfl) (by kernel_rfl) (by kernel_rfl) (g := fun k => (zk.L0 k).f) (fun k => loops_in zk.d trivial) (fun _ => rfl) (fun k x => zk.r0 k x) k
def zk.b (c0 : CO → Int → Int → Option (Int ⊕ Bool)) (a0 : CO) : Option Bool := (bif (decide ((((List.length a0) : Nat) : Int) > (400 : Int))) then (some true) else (Option.bind (c0 a0 ((0 : Int),(0 : Int)).1 ((0 : Int),(0 : Int)).2) fun y2 => (Sum.elim (fun y3 => (some (decide (y3 > (2000 : Int))))) (fun y3 => (some y3)) y2)))
def zk.f (k : Nat) a0 := zk.b (zk.l0 k) a0
noncomputable def zk.V a0 := lim fun k => zk.f k a0
theorem zk.v a0 {y} (h : zk.b zk.V0 a0 = some y) : zk.V a0 = some y := Le.v (by unfold zk.f zk.b;repeat (first | with_reducible first | exact Le.const | refine Le.bind ?_ fun _ => ?_ | refine Le.cond ?_ ?_ | refine Le.elim (fun _ => ?_) fun _ => ?_ | exact Le.of rfl)) h
theorem zk.e (k : Nat) (x : Tup (sigTys zk.hd)) : fnK T0 (zk.env k) [⟨0,zk.L0 k⟩] zk.C Tryz.f8 1 80 zk.hd zk.os x = zk.f k x := by kernel_rfl
def zk.fn (k : Nat) : Kn P0 G0 := ⟨8,1,80,zk.hd,1,zk.os,fun x => zk.f k x,contract (T := T0) (fn := Tryz.f8) hm0 hT0 (by kernel_rfl) (by kernel_rfl) (L := [⟨0,zk.L0 k⟩]) (C := zk.C) (by kernel_rfl) (by decide) rfl (by kernel_rfl) (loops_fn zk.d ⟨zk.s0 k,trivial⟩) (zk.e k),none⟩
def zl.hd : Sig := [⟨false,0,(.imm (.list (.int .u32)))⟩]
def zl.os : List Sig := [[⟨false,0,(.own 18 false 111 (.int .u32))⟩]]
def zl.h0 : Sig := [⟨false,0,(.imm (.list (.int .u32)))⟩,⟨false,3,(.imm (.int .i64))⟩]
def zl.o0 : Outs := [((.exit 0),[⟨false,0,(.imm (.list (.int .u32)))⟩,⟨false,3,(.imm (.int .i64))⟩])]
def zl.C : List CutAt := []
def zl.env (k : Nat) : List (Kn P0 G0) := []
theorem zl.d : distN (loopIds (Tryz.f103.body.getD .skip) 0) = true := by kernel_rfl
def zl.b0 (c0 : LI → Int → Option (LI × Int)) (x0 : LI) (x1 : Int) : Option (LI × Int) := (bif (decide (x1 > (0 : Int))) then (bif (decide (((0 : Int) ≤ (IntKind.wrap .i64 (x1 - (1 : Int)))) ∧ ((IntKind.wrap .i64 (x1 - (1 : Int))) < (((List.length x0) : Nat) : Int)))) then (bif ((rdL (0 : Int) x0 (IntKind.wrap .i64 (x1 - (1 : Int)))) == (0 : Int)) then (c0 x0 (IntKind.wrap .i64 (x1 - (1 : Int)))) else (some (x0,x1))) else none) else (some (x0,x1)))
def zl.l0 : Nat → LI → Int → Option (LI × Int)
 | 0,_,_ => none
 | k + 1,x0,x1 => zl.b0 (zl.l0 k) x0 x1
noncomputable def zl.V0 x0 x1 := lim fun k => zl.l0 k x0 x1
theorem zl.v0 x0 x1 {y} (h : zl.b0 zl.V0 x0 x1 = some y) : zl.V0 x0 x1 = some y := Le.v (.succ (by unfold zl.l0 zl.b0;repeat (first | with_reducible first | exact Le.const | refine Le.bind ?_ fun _ => ?_ | refine Le.cond ?_ ?_ | refine Le.elim (fun _ => ?_) fun _ => ?_ | exact Le.of rfl))) h
def zl.L0 (k : Nat) : LFn := ⟨zl.h0,zl.o0,fun x => zl.l0 k x.1 x.2⟩
theorem zl.r0 (k : Nat) (x : Tup (sigTys zl.h0)) : roundK T0 (zl.env k) 23 46 [] zl.C (loopOf Tryz.f103 0) 0 zl.h0 zl.o0 (zl.L0 k).f x = (zl.L0 (k + 1)).f x := by kernel_rfl
theorem zl.s0 (k : Nat) : LoopSound P0 G0 23 46 (sigPins zl.hd) (zl.L0 k) (loopOf Tryz.f103 0) := loop_rounds (T := T0) hm0 hT0 (env := fun k => (zl.env k)) (nh := 46) (pn := sigPins zl.hd) (L := fun k => []) (C := zl.C) (by kernel_rfl) (hd := zl.h0) (os := zl.o0) (by kernel_rfl) (by kernel_rfl) (by kernel_rfl) (g := fun k => (zl.L0 k).f) (fun k => loops_in zl.d trivial) (fun _ => rfl) (fun k x => zl.r0 k x) k
def zl.b (c0 : LI → Int → Option (LI × Int)) (a0 : LI) : Option LI := (Option.bind (c0 a0 (((List.length a0) : Nat) : Int)) fun y2 => (bif (decide (((0 : Int) ≤ y2.2) ∧ (y2.2 ≤ (((List.length y2.1) : Nat) : Int)))) then (bif (decide (((List.length ([] : LI)) + (List.length (List.take (Int.toNat y2.2) y2.1))) ≤ 68719476736)) then (some (([] : LI) ++ (List.take (Int.toNat y2.2) y2.1))) else none) else none))
def zl.f (k : Nat) a0 := zl.b (zl.l0 k) a0
noncomputable def zl.V a0 := lim fun k => zl.f k a0
theorem zl.v a0 {y} (h : zl.b zl.V0 a0 = some y) : zl.V a0 = some y := Le.v (by unfold zl.f zl.b;repeat (first | with_reducible first | exact Le.const | refine Le.bind ?_ fun _ => ?_ | refine Le.cond ?_ ?_ | refine Le.elim (fun _ => ?_) fun _ => ?_ | exact Le.of rfl)) h
theorem zl.e (k : Nat) (x : Tup (sigTys zl.hd)) : fnK T0 (zl.env k) [⟨0,zl.L0 k⟩] zl.C Tryz.f103 1 46 zl.hd zl.os x = zl.f k x := by kernel_rfl
def zl.fn (k : Nat) : Kn P0 G0 := ⟨103,1,46,zl.hd,1,zl.os,fun x => zl.f k x,contract (T := T0) (fn := Tryz.f103) hm0 hT0 (by kernel_rfl) (by kernel_rfl) (L := [⟨0,zl.L0 k⟩]) (C := zl.C) (by kernel_rfl) (by decide) rfl (by kernel_rfl) (loops_fn zl.d ⟨zl.s0 k,trivial⟩) (zl.e k),none⟩
def xJ.hd : Sig := [⟨false,0,(.imm (.int .u64))⟩]
def xJ.os : List Sig := [[⟨false,0,(.own 9 false 111 (.int .u32))⟩]]
def xJ.C : List CutAt := []
def xJ.env (k : Nat) : List (Kn P0 G0) := [zl.fn k]
theorem xJ.d : distN (loopIds (Tryz.f131.body.getD .skip) 0) = true := by kernel_rfl
def xJ.b (c0 : LI → Option LI) (a0 : Int) : Option LI := (Option.bind (c0 ((IntKind.wrap .u32 a0) :: ((IntKind.wrap .u32 (shrI .u64 a0 (32 : Int))) :: ([] : LI)))) fun y2 => (some y2))
def xJ.f (k : Nat) a0 := xJ.b (zl.f k) a0
noncomputable def xJ.V a0 := lim fun k => xJ.f k a0
theorem xJ.v a0 {y} (h : xJ.b zl.V a0 = some y) : xJ.V a0 = some y := Le.v (by unfold xJ.f xJ.b;repeat (first | with_reducible first | exact Le.const | refine Le.bind ?_ fun _ => ?_ | refine Le.cond ?_ ?_ | refine Le.elim (fun _ => ?_) fun _ => ?_ | exact Le.of rfl)) h
theorem xJ.e (k : Nat) (x : Tup (sigTys xJ.hd)) : fnK T0 (xJ.env k) [] xJ.C Tryz.f131 1 20 xJ.hd xJ.os x = xJ.f k x := by kernel_rfl
def xJ.fn (k : Nat) : Kn P0 G0 := ⟨131,1,20,xJ.hd,1,xJ.os,fun x => xJ.f k x,contract (T := T0) (fn := Tryz.f131) hm0 hT0 (by kernel_rfl) (by kernel_rfl) (L := []) (C := xJ.C) (by kernel_rfl) (by decide) rfl (by kernel_rfl) (loops_fn xJ.d trivial) (xJ.e k),none⟩
def zY.hd : Sig := [⟨false,0,(.imm .bool)⟩,⟨false,1,(.imm (.list (.int .u32)))⟩]
def zY.os : List Sig := [[⟨false,0,(.agg api_Int (.acons (.imm .bool) (.acons (.own 7 false 111 (.int .u32)) .anil)))⟩]]
def zY.C : List CutAt := []
def zY.env (k : Nat) : List (Kn P0 G0) := [zl.fn k]
theorem zY.d : distN (loopIds (Tryz.f93.body.getD .skip) 0) = true := by kernel_rfl
def zY.b (c0 : LI → Option LI) (a0 : Bool) (a1 : LI) : Option (Bool × LI) := (Option.bind (c0 a1) fun y3 => (bif a0 then (some ((decide ((((List.length y3) : Nat) : Int) > (0 : Int))),y3)) else (some (false,y3))))
def zY.f (k : Nat) a0 a1 := zY.b (zl.f k) a0 a1
noncomputable def zY.V a0 a1 := lim fun k => zY.f k a0 a1
theorem zY.v a0 a1 {y} (h : zY.b zl.V a0 a1 = some y) : zY.V a0 a1 = some y := Le.v (by unfold zY.f zY.b;repeat (first | with_reducible first | exact Le.const | refine Le.bind ?_ fun _ => ?_ | refine Le.cond ?_ ?_ | refine Le.elim (fun _ => ?_) fun _ => ?_ | exact Le.of rfl)) h
theorem zY.e (k : Nat) (x : Tup (sigTys zY.hd)) : fnK T0 (zY.env k) [] zY.C Tryz.f93 2 32 zY.hd zY.os x = zY.f k x.1 x.2 := by kernel_rfl
def zY.fn (k : Nat) : Kn P0 G0 := ⟨93,2,32,zY.hd,1,zY.os,fun x => zY.f k x.1 x.2,contract (T := T0) (fn := Tryz.f93) hm0 hT0 (by kernel_rfl) (by kernel_rfl) (L := []) (C := zY.C) (by kernel_rfl) (by decide) rfl (by kernel_rfl) (loops_fn zY.d trivial) (zY.e k),none⟩
def xK.hd : Sig := [⟨false,0,(.imm (.int .i64))⟩]
def xK.os : List Sig := [[⟨false,0,(.agg api_Int (.acons (.imm .bool) (.acons (.own 11 false 111 (.int .u32)) .anil)))⟩]]
def xK.C : List CutAt := []
def xK.env (k : Nat) : List (Kn P0 G0) := [xJ.fn k,zY.fn k]
theorem xK.d : distN (loopIds (Tryz.f94.body.getD .skip) 0) = true := by kernel_rfl
def xK.b (c0 : Int → Option LI) (c1 : Bool → LI → Option (Bool × LI)) (a0 : Int) : Option (Bool × LI) := (bif (decide (a0 < (0 : Int))) then (Option.bind (c0 (IntKind.wrap .u64 ((IntKind.wrap .u64 (IntKind.wrap .i64 ((0 : Int) - (IntKind.wrap .i64 (a0 + (1 : Int)))))) + (1 : Int)))) fun y2 => (Option.bind (c1 true y2) fun y3 => (some (y3.1,y3.2)))) else (Option.bind (c0 (IntKind.wrap .u64 a0)) fun y2 => (Option.bind (c1 false y2) fun y3 => (some (y3.1,y3.2)))))
def xK.f (k : Nat) a0 := xK.b (xJ.f k) (zY.f k) a0
noncomputable def xK.V a0 := lim fun k => xK.f k a0
theorem xK.v a0 {y} (h : xK.b xJ.V zY.V a0 = some y) : xK.V a0 = some y := Le.v (by unfold xK.f xK.b;repeat (first | with_reducible first | exact Le.const | refine Le.bind ?_ fun _ => ?_ | refine Le.cond ?_ ?_ | refine Le.elim (fun _ => ?_) fun _ => ?_ | exact Le.of rfl)) h
theorem xK.e (k : Nat) (x : Tup (sigTys xK.hd)) : fnK T0 (xK.env k) [] xK.C Tryz.f94 1 32 xK.hd xK.os x = xK.f k x := by kernel_rfl
def xK.fn (k : Nat) : Kn P0 G0 := ⟨94,1,32,xK.hd,1,xK.os,fun x => xK.f k x,contract (T := T0) (fn := Tryz.f94) hm0 hT0 (by kernel_rfl) (by kernel_rfl) (L := []) (C := xK.C) (by kernel_rfl) (by decide) rfl (by kernel_rfl) (loops_fn xK.d trivial) (xK.e k),none⟩
def yp.hd : Sig := [⟨false,0,(.imm (.int .i64))⟩]
def yp.os : List Sig := [[⟨false,0,(.agg api_Rat (.acons (.agg api_Int (.acons (.imm .bool) (.acons (.own 4 false 111 (.int .u32)) .anil))) (.acons (.own 5 false 111 (.int .u32)) .anil)))⟩]]
def yp.C : List CutAt := []
def yp.env (k : Nat) : List (Kn P0 G0) := [xK.fn k]
theorem yp.d : distN (loopIds (Tryz.f47.body.getD .skip) 0) = true := by kernel_rfl
def yp.b (c0 : Int → Option (Bool × LI)) (a0 : Int) : Option (Bool × LI × LI) := (Option.bind (c0 a0) fun y2 => (some (y2.1,(y2.2,((1 : Int) :: ([] : LI))))))
def yp.f (k : Nat) a0 := yp.b (xK.f k) a0
noncomputable def yp.V a0 := lim fun k => yp.f k a0
theorem yp.v a0 {y} (h : yp.b xK.V a0 = some y) : yp.V a0 = some y := Le.v (by unfold yp.f yp.b;repeat (first | with_reducible first | exact Le.const | refine Le.bind ?_ fun _ => ?_ | refine Le.cond ?_ ?_ | refine Le.elim (fun _ => ?_) fun _ => ?_ | exact Le.of rfl)) h
theorem yp.e (k : Nat) (x : Tup (sigTys yp.hd)) : fnK T0 (yp.env k) [] yp.C Tryz.f47 1 14 yp.hd yp.os x = yp.f k x := by kernel_rfl
def yp.fn (k : Nat) : Kn P0 G0 := ⟨47,1,14,yp.hd,1,yp.os,fun x => yp.f k x,contract (T := T0) (fn := Tryz.f47) hm0 hT0 (by kernel_rfl) (by kernel_rfl) (L := []) (C := yp.C) (by kernel_rfl) (by decide) rfl (by kernel_rfl) (loops_fn yp.d trivial) (yp.e k),none⟩
def xA.hd : Sig := [⟨false,0,(.imm (.list (.int .u32)))⟩]
def xA.os : List Sig := [[⟨false,0,(.imm .bool)⟩]]
def xA.C : List CutAt := []
def xA.env : List (Kn P0 G0) := []
theorem xA.d : distN (loopIds (Tryz.f71.body.getD .skip) 0) = true := by kernel_rfl
def xA.f (a0 : LI) : Option Bool := (bif ((((List.length a0) : Nat) : Int) == (0 : Int)) then (some true) else (bif (decide (((0 : Int) ≤ (IntKind.wrap .i64 ((((List.length a0) : Nat) : Int) - (1 : Int)))) ∧ ((IntKind.wrap .i64 ((((List.length a0) : Nat) : Int) - (1 : Int))) < (((List.length a0) : Nat) : Int)))) then (some ((rdL (0 : Int) a0 (IntKind.wrap .i64 ((((List.length a0) : Nat) : Int) - (1 : Int)))) != (0 : Int))) else none))
theorem xA.e (x : Tup (sigTys xA.hd)) : fnK T0 xA.env [] xA.C Tryz.f71 1 30 xA.hd xA.os x = xA.f x := by kernel_rfl
def xA.fn : Kn P0 G0 := ⟨71,1,30,xA.hd,1,xA.os,fun x => xA.f x,contract (T := T0) (fn := Tryz.f71) hm0 hT0 (by kernel_rfl) (by kernel_rfl) (L := []) (C := xA.C) (by kernel_rfl) (by decide) rfl (by kernel_rfl) (loops_fn xA.d trivial) (xA.e),none⟩
def xS.hd : Sig := [⟨false,0,(.imm (.list (.int .u32)))⟩,⟨false,1,(.imm (.int .i64))⟩]
def xS.os : List Sig := [[⟨false,0,(.imm (.int .u64))⟩]]
def xS.C : List CutAt := []
def xS.env : List (Kn P0 G0) := []
theorem xS.d : distN (loopIds (Tryz.f168.body.getD .skip) 0) = true := by kernel_rfl
def xS.f (a0 : LI) (a1 : Int) : Option Int := (bif (decide (a1 ≥ (((List.length a0) : Nat) : Int))) then (some (0 : Int)) else (bif (decide (((0 : Int) ≤ a1) ∧ (a1 < (((List.length a0) : Nat) : Int)))) then (some (IntKind.wrap .u64 (rdL (0 : Int) a0 a1))) else none))
theorem xS.e (x : Tup (sigTys xS.hd)) : fnK T0 xS.env [] xS.C Tryz.f168 2 28 xS.hd xS.os x = xS.f x.1 x.2 := by kernel_rfl
def xS.fn : Kn P0 G0 := ⟨168,2,28,xS.hd,1,xS.os,fun x => xS.f x.1 x.2,contract (T := T0) (fn := Tryz.f168) hm0 hT0 (by kernel_rfl) (by kernel_rfl) (L := []) (C := xS.C) (by kernel_rfl) (by decide) rfl (by kernel_rfl) (loops_fn xS.d trivial) (xS.e),none⟩
def xW.hd : Sig := [⟨false,0,(.imm (.list (.int .u32)))⟩,⟨false,1,(.imm (.int .i64))⟩]
def xW.os : List Sig := [[⟨false,0,(.imm .bool)⟩]]
def xW.C : List CutAt := []
def xW.env : List (Kn P0 G0) := [xS.fn]
theorem xW.d : distN (loopIds (Tryz.f167.body.getD .skip) 0) = true := by kernel_rfl
def xW.f (a0 : LI) (a1 : Int) : Option Bool := (bif (decide (a1 ≥ (0 : Int))) then (Option.bind (xS.f a0 (IntKind.wrap .i64 (Int.tdiv a1 (32 : Int)))) fun y2 => (bif (decide ((IntKind.wrap .u64 (Int.tmod a1 (32 : Int))) < (0 : Int))) then none else (some ((band .u64 (shrI .u64 y2 (IntKind.wrap .u64 (Int.tmod a1 (32 : Int)))) (1 : Int)) == (1 : Int))))) else (some false))
theorem xW.e (x : Tup (sigTys xW.hd)) : fnK T0 xW.env [] xW.C Tryz.f167 2 38 xW.hd xW.os x = xW.f x.1 x.2 := by kernel_rfl
def xW.fn : Kn P0 G0 := ⟨167,2,38,xW.hd,1,xW.os,fun x => xW.f x.1 x.2,contract (T := T0) (fn := Tryz.f167) hm0 hT0 (by kernel_rfl) (by kernel_rfl) (L := []) (C := xW.C) (by kernel_rfl) (by decide) rfl (by kernel_rfl) (loops_fn xW.d trivial) (xW.e),none⟩
def zK.hd : Sig := [⟨false,0,(.imm (.list (.int .u32)))⟩]
def zK.os : List Sig := [[⟨false,0,(.imm (.int .i64))⟩]]
def zK.h0 : Sig := [⟨false,0,(.imm (.list (.int .u32)))⟩,⟨false,3,(.imm (.int .i64))⟩]
def zK.o0 : Outs := [((.exit 0),[⟨false,3,(.imm (.int .i64))⟩])]
def zK.C : List CutAt := []
def zK.env (k : Nat) : List (Kn P0 G0) := [xW.fn]
theorem zK.d : distN (loopIds (Tryz.f142.body.getD .skip) 0) = true := by kernel_rfl
def zK.b0 (c0 : LI → Int → Option Int) (x0 : LI) (x1 : Int) : Option Int := (bif (decide (x1 > (0 : Int))) then (Option.bind (xW.f x0 (IntKind.wrap .i64 (x1 - (1 : Int)))) fun y4 => (bif (!y4) then (c0 x0 (IntKind.wrap .i64 (x1 - (1 : Int)))) else (some x1))) else (some x1))
def zK.l0 : Nat → LI → Int → Option Int
 | 0,_,_ => none
 | k + 1,x0,x1 => zK.b0 (zK.l0 k) x0 x1
noncomputable def zK.V0 x0 x1 := lim fun k => zK.l0 k x0 x1
theorem zK.v0 x0 x1 {y} (h : zK.b0 zK.V0 x0 x1 = some y) : zK.V0 x0 x1 = some y := Le.v (.succ (by unfold zK.l0 zK.b0;repeat (first | with_reducible first | exact Le.const | refine Le.bind ?_ fun _ => ?_ | refine Le.cond ?_ ?_ | refine Le.elim (fun _ => ?_) fun _ => ?_ | exact Le.of rfl))) h
def zK.L0 (k : Nat) : LFn := ⟨zK.h0,zK.o0,fun x => zK.l0 k x.1 x.2⟩
theorem zK.r0 (k : Nat) (x : Tup (sigTys zK.h0)) : roundK T0 (zK.env k) 19 38 [] zK.C (loopOf Tryz.f142 0) 0 zK.h0 zK.o0 (zK.L0 k).f x = (zK.L0 (k + 1)).f x := by kernel_rfl
theorem zK.s0 (k : Nat) : LoopSound P0 G0 19 38 (sigPins zK.hd) (zK.L0 k) (loopOf Tryz.f142 0) := loop_rounds (T := T0) hm0 hT0 (env := fun k => (zK.env k)) (nh := 38) (pn := sigPins zK.hd) (L := fun k => []) (C := zK.C) (by kernel_rfl) (hd := zK.h0) (os := zK.o0) (by kernel_rfl) (by kernel_rfl) (by kernel_rfl) (g := fun k => (zK.L0 k).f) (fun k => loops_in zK.d trivial) (fun _ => rfl) (fun k x => zK.r0 k x) k
def zK.b (c0 : LI → Int → Option Int) (a0 : LI) : Option Int := (Option.bind (c0 a0 (IntKind.wrap .i64 ((32 : Int) * (((List.length a0) : Nat) : Int)))) fun y2 => (some y2))
def zK.f (k : Nat) a0 := zK.b (zK.l0 k) a0
noncomputable def zK.V a0 := lim fun k => zK.f k a0
theorem zK.v a0 {y} (h : zK.b zK.V0 a0 = some y) : zK.V a0 = some y := Le.v (by unfold zK.f zK.b;repeat (first | with_reducible first | exact Le.const | refine Le.bind ?_ fun _ => ?_ | refine Le.cond ?_ ?_ | refine Le.elim (fun _ => ?_) fun _ => ?_ | exact Le.of rfl)) h
theorem zK.e (k : Nat) (x : Tup (sigTys zK.hd)) : fnK T0 (zK.env k) [⟨0,zK.L0 k⟩] zK.C Tryz.f142 1 38 zK.hd zK.os x = zK.f k x := by kernel_rfl
def zK.fn (k : Nat) : Kn P0 G0 := ⟨142,1,38,zK.hd,1,zK.os,fun x => zK.f k x,contract (T := T0) (fn := Tryz.f142) hm0 hT0 (by kernel_rfl) (by kernel_rfl) (L := [⟨0,zK.L0 k⟩]) (C := zK.C) (by kernel_rfl) (by decide) rfl (by kernel_rfl) (loops_fn zK.d ⟨zK.s0 k,trivial⟩) (zK.e k),none⟩
def yd.hd : Sig := [⟨false,0,(.imm (.list (.int .u32)))⟩,⟨false,1,(.imm (.int .i64))⟩]
def yd.os : List Sig := [[⟨false,0,(.own 46 false 111 (.int .u32))⟩]]
def yd.h0 : Sig := [⟨false,0,(.imm (.list (.int .u32)))⟩,⟨false,1,(.imm (.int .i64))⟩,⟨false,5,(.own 16 false 111 (.int .u32))⟩,⟨false,6,(.imm (.int .u64))⟩,⟨false,7,(.imm (.int .i64))⟩]
def yd.o0 : Outs := [((.exit 0),[⟨false,5,(.own 16 false 111 (.int .u32))⟩,⟨false,6,(.imm (.int .u64))⟩])]
def yd.C : List CutAt := []
def yd.env (k : Nat) : List (Kn P0 G0) := [zl.fn k]
theorem yd.d : distN (loopIds (Tryz.f143.body.getD .skip) 0) = true := by kernel_rfl
def yd.b0 (c0 : LI → Int → LI → Int → Int → Option (LI × Int)) (x0 : LI) (x1 : Int) (x2 : LI) (x3 : Int) (x4 : Int) : Option (LI × Int) := (bif (decide (x4 < (((List.length x0) : Nat) : Int))) then (bif (decide (((0 : Int) ≤ x4) ∧ (x4 < (((List.length x0) : Nat) : Int)))) then (bif (decide ((IntKind.wrap .u64 (Int.tmod x1 (32 : Int))) < (0 : Int))) then none else (bif (decide (((List.length x2) + (List.length ((IntKind.wrap .u32 (bor .u64 x3 (shlI .u64 (IntKind.wrap .u64 (rdL (0 : Int) x0 x4)) (IntKind.wrap .u64 (Int.tmod x1 (32 : Int)))))) :: ([] : LI)))) ≤ 68719476736)) then (c0 x0 x1 (x2 ++ ((IntKind.wrap .u32 (bor .u64 x3 (shlI .u64 (IntKind.wrap .u64 (rdL (0 : Int) x0 x4)) (IntKind.wrap .u64 (Int.tmod x1 (32 : Int)))))) :: ([] : LI))) (shrI .u64 (bor .u64 x3 (shlI .u64 (IntKind.wrap .u64 (rdL (0 : Int) x0 x4)) (IntKind.wrap .u64 (Int.tmod x1 (32 : Int))))) (32 : Int)) (IntKind.wrap .i64 (x4 + (1 : Int)))) else none)) else none) else (some (x2,x3)))
def yd.l0 : Nat → LI → Int → LI → Int → Int → Option (LI × Int)
 | 0,_,_,_,_,_ => none
 | k + 1,x0,x1,x2,x3,x4 => yd.b0 (yd.l0 k) x0 x1 x2 x3 x4
noncomputable def yd.V0 x0 x1 x2 x3 x4 := lim fun k => yd.l0 k x0 x1 x2 x3 x4
theorem yd.v0 x0 x1 x2 x3 x4 {y} (h : yd.b0 yd.V0 x0 x1 x2 x3 x4 = some y) : yd.V0 x0 x1 x2 x3 x4 = some y := Le.v (.succ (by unfold yd.l0 yd.b0;repeat (first | with_reducible first | exact Le.const | refine Le.bind ?_ fun _ => ?_ | refine Le.cond ?_ ?_ | refine Le.elim (fun _ => ?_) fun _ => ?_ | exact Le.of rfl))) h
def yd.L0 (k : Nat) : LFn := ⟨yd.h0,yd.o0,fun x => yd.l0 k x.1 x.2.1 x.2.2.1 x.2.2.2.1 x.2.2.2.2⟩
theorem yd.r0 (k : Nat) (x : Tup (sigTys yd.h0)) : roundK T0 (yd.env k) 47 94 [] yd.C (loopOf Tryz.f143 0) 0 yd.h0 yd.o0 (yd.L0 k).f x = (yd.L0 (k + 1)).f x := by kernel_rfl
theorem yd.s0 (k : Nat) : LoopSound P0 G0 47 94 (sigPins yd.hd) (yd.L0 k) (loopOf Tryz.f143 0) := loop_rounds (T := T0) hm0 hT0 (env := fun k => (yd.env k)) (nh := 94) (pn := sigPins yd.hd) (L := fun k => []) (C := yd.C) (by kernel_rfl) (hd := yd.h0) (os := yd.o0) (by kernel_rfl) (by kernel_rfl) (by kernel_rfl) (g := fun k => (yd.L0 k).f) (fun k => loops_in yd.d trivial) (fun _ => rfl) (fun k x => yd.r0 k x) k
def yd.b (c0 : LI → Int → LI → Int → Int → Option (LI × Int)) (c1 : LI → Option LI) (a0 : LI) (a1 : Int) : Option LI := (bif (decide (((0 : Int) ≤ (IntKind.wrap .i64 (Int.tdiv a1 (32 : Int)))) ∧ (((IntKind.wrap .i64 (Int.tdiv a1 (32 : Int))) ≤ (IntKind.wrap .i64 ((IntKind.wrap .i64 ((IntKind.wrap .i64 (Int.tdiv a1 (32 : Int))) + (((List.length a0) : Nat) : Int))) + (1 : Int)))) ∧ ((IntKind.wrap .i64 ((IntKind.wrap .i64 ((IntKind.wrap .i64 (Int.tdiv a1 (32 : Int))) + (((List.length a0) : Nat) : Int))) + (1 : Int))) ≤ ((68719476736 : Nat) : Int))))) then (Option.bind (c0 a0 (a1,((List.replicate (Int.toNat (IntKind.wrap .i64 (Int.tdiv a1 (32 : Int)))) (0 : Int)),((0 : Int),(0 : Int)))).1 (a1,((List.replicate (Int.toNat (IntKind.wrap .i64 (Int.tdiv a1 (32 : Int)))) (0 : Int)),((0 : Int),(0 : Int)))).2.1 (a1,((List.replicate (Int.toNat (IntKind.wrap .i64 (Int.tdiv a1 (32 : Int)))) (0 : Int)),((0 : Int),(0 : Int)))).2.2.1 (a1,((List.replicate (Int.toNat (IntKind.wrap .i64 (Int.tdiv a1 (32 : Int)))) (0 : Int)),((0 : Int),(0 : Int)))).2.2.2) fun y3 => (bif (decide (((List.length y3.1) + (List.length ((IntKind.wrap .u32 y3.2) :: ([] : LI)))) ≤ 68719476736)) then (Option.bind (c1 (y3.1 ++ ((IntKind.wrap .u32 y3.2) :: ([] : LI)))) fun y4 => (some y4)) else none)) else none)
def yd.f (k : Nat) a0 a1 := yd.b (yd.l0 k) (zl.f k) a0 a1
noncomputable def yd.V a0 a1 := lim fun k => yd.f k a0 a1
theorem yd.v a0 a1 {y} (h : yd.b yd.V0 zl.V a0 a1 = some y) : yd.V a0 a1 = some y := Le.v (by unfold yd.f yd.b;repeat (first | with_reducible first | exact Le.const | refine Le.bind ?_ fun _ => ?_ | refine Le.cond ?_ ?_ | refine Le.elim (fun _ => ?_) fun _ => ?_ | exact Le.of rfl)) h
theorem yd.e (k : Nat) (x : Tup (sigTys yd.hd)) : fnK T0 (yd.env k) [⟨0,yd.L0 k⟩] yd.C Tryz.f143 2 94 yd.hd yd.os x = yd.f k x.1 x.2 := by kernel_rfl
def yd.fn (k : Nat) : Kn P0 G0 := ⟨143,2,94,yd.hd,1,yd.os,fun x => yd.f k x.1 x.2,contract (T := T0) (fn := Tryz.f143) hm0 hT0 (by kernel_rfl) (by kernel_rfl) (L := [⟨0,yd.L0 k⟩]) (C := yd.C) (by kernel_rfl) (by decide) rfl (by kernel_rfl) (loops_fn yd.d ⟨yd.s0 k,trivial⟩) (yd.e k),none⟩
def zM.hd : Sig := [⟨false,0,(.imm (.list (.int .u32)))⟩,⟨false,1,(.imm (.list (.int .u32)))⟩]
def zM.os : List Sig := [[⟨false,0,(.imm (.int .i64))⟩]]
def zM.h0 : Sig := [⟨false,0,(.imm (.list (.int .u32)))⟩,⟨false,1,(.imm (.list (.int .u32)))⟩,⟨false,5,(.imm (.int .i64))⟩]
def zM.o0 : Outs := [((.exit 0),[]),(.ret,[⟨false,4,(.imm (.int .i64))⟩])]
def zM.C : List CutAt := []
def zM.env (k : Nat) : List (Kn P0 G0) := [xS.fn]
theorem zM.d : distN (loopIds (Tryz.f144.body.getD .skip) 0) = true := by kernel_rfl
def zM.b0 (c0 : LI → LI → Int → Option ((Unit) ⊕ Int)) (x0 : LI) (x1 : LI) (x2 : Int) : Option ((Unit) ⊕ Int) := (bif (decide (x2 ≥ (0 : Int))) then (Option.bind (xS.f x0 x2) fun y5 => (Option.bind (xS.f x1 x2) fun y6 => (bif (decide (y5 < y6)) then (some (Sum.inr (-(1 : Int)))) else (Option.bind (xS.f x0 x2) fun y7 => (Option.bind (xS.f x1 x2) fun y8 => (bif (decide (y7 > y8)) then (some (Sum.inr (1 : Int))) else (c0 x0 x1 (IntKind.wrap .i64 (x2 - (1 : Int)))))))))) else (some (Sum.inl ())))
def zM.l0 : Nat → LI → LI → Int → Option ((Unit) ⊕ Int)
 | 0,_,_,_ => none
 | k + 1,x0,x1,x2 => zM.b0 (zM.l0 k) x0 x1 x2
noncomputable def zM.V0 x0 x1 x2 := lim fun k => zM.l0 k x0 x1 x2
theorem zM.v0 x0 x1 x2 {y} (h : zM.b0 zM.V0 x0 x1 x2 = some y) : zM.V0 x0 x1 x2 = some y := Le.v (.succ (by unfold zM.l0 zM.b0;repeat (first | with_reducible first | exact Le.const | refine Le.bind ?_ fun _ => ?_ | refine Le.cond ?_ ?_ | refine Le.elim (fun _ => ?_) fun _ => ?_ | exact Le.of rfl))) h
def zM.L0 (k : Nat) : LFn := ⟨zM.h0,zM.o0,fun x => zM.l0 k x.1 x.2.1 x.2.2⟩
theorem zM.r0 (k : Nat) (x : Tup (sigTys zM.h0)) : roundK T0 (zM.env k) 30 60 [] zM.C (loopOf Tryz.f144 0) 0 zM.h0 zM.o0 (zM.L0 k).f x = (zM.L0 (k + 1)).f x := by kernel_rfl
theorem zM.s0 (k : Nat) : LoopSound P0 G0 30 60 (sigPins zM.hd) (zM.L0 k) (loopOf Tryz.f144 0) := loop_rounds (T := T0) hm0 hT0 (env := fun k => (zM.env k)) (nh := 60) (pn := sigPins zM.hd) (L := fun k => []) (C := zM.C) (by kernel_rfl) (hd := zM.h0) (os := zM.o0) (by kernel_rfl) (by kernel_rfl) (by kernel_rfl) (g := fun k => (zM.L0 k).f) (fun k => loops_in zM.d trivial) (fun _ => rfl) (fun k x => zM.r0 k x) k
def zM.b (c0 : LI → LI → Int → Option ((Unit) ⊕ Int)) (a0 : LI) (a1 : LI) : Option Int := (Option.bind (c0 a0 (a1,(IntKind.wrap .i64 ((mxI (((List.length a0) : Nat) : Int) (((List.length a1) : Nat) : Int)) - (1 : Int)))).1 (a1,(IntKind.wrap .i64 ((mxI (((List.length a0) : Nat) : Int) (((List.length a1) : Nat) : Int)) - (1 : Int)))).2) fun y3 => (Sum.elim (fun y4 => (some (0 : Int))) (fun y4 => (some y4)) y3))
def zM.f (k : Nat) a0 a1 := zM.b (zM.l0 k) a0 a1
noncomputable def zM.V a0 a1 := lim fun k => zM.f k a0 a1
theorem zM.v a0 a1 {y} (h : zM.b zM.V0 a0 a1 = some y) : zM.V a0 a1 = some y := Le.v (by unfold zM.f zM.b;repeat (first | with_reducible first | exact Le.const | refine Le.bind ?_ fun _ => ?_ | refine Le.cond ?_ ?_ | refine Le.elim (fun _ => ?_) fun _ => ?_ | exact Le.of rfl)) h
theorem zM.e (k : Nat) (x : Tup (sigTys zM.hd)) : fnK T0 (zM.env k) [⟨0,zM.L0 k⟩] zM.C Tryz.f144 2 60 zM.hd zM.os x = zM.f k x.1 x.2 := by kernel_rfl
def zM.fn (k : Nat) : Kn P0 G0 := ⟨144,2,60,zM.hd,1,zM.os,fun x => zM.f k x.1 x.2,contract (T := T0) (fn := Tryz.f144) hm0 hT0 (by kernel_rfl) (by kernel_rfl) (L := [⟨0,zM.L0 k⟩]) (C := zM.C) (by kernel_rfl) (by decide) rfl (by kernel_rfl) (loops_fn zM.d ⟨zM.s0 k,trivial⟩) (zM.e k),none⟩
def zR.hd : Sig := [⟨false,0,(.imm (.list (.int .u32)))⟩,⟨false,1,(.imm (.list (.int .u32)))⟩]
def zR.os : List Sig := [[⟨false,0,(.own 37 false 111 (.int .u32))⟩]]
def zR.h0 : Sig := [⟨false,0,(.imm (.list (.int .u32)))⟩,⟨false,1,(.imm (.list (.int .u32)))⟩,⟨false,5,(.own 35 false 111 (.int .u32))⟩,⟨false,6,(.imm (.int .u64))⟩,⟨false,7,(.imm (.int .i64))⟩]
def zR.o0 : Outs := [((.exit 0),[⟨false,5,(.own 35 false 111 (.int .u32))⟩])]
def zR.C : List CutAt := [⟨11,[(.normal,[⟨false,0,(.imm (.list (.int .u32)))⟩,⟨false,1,(.imm (.list (.int .u32)))⟩,⟨false,5,(.own 35 false 111 (.int .u32))⟩,⟨false,6,(.imm (.int .u64))⟩,⟨false,7,(.imm (.int .i64))⟩,⟨false,8,(.imm (.int .u64))⟩,⟨false,9,(.imm (.int .u64))⟩])]⟩]
def zR.env (k : Nat) : List (Kn P0 G0) := [xS.fn,zl.fn k]
theorem zR.d : distN (loopIds (Tryz.f145.body.getD .skip) 0) = true := by kernel_rfl
def zR.b0 (c0 : LI → LI → LI → Int → Int → Option LI) (x0 : LI) (x1 : LI) (x2 : LI) (x3 : Int) (x4 : Int) : Option LI := (bif (decide (x4 < (((List.length x0) : Nat) : Int))) then (Option.bind (xS.f x0 x4) fun y7 => (Option.bind (xS.f x1 x4) fun y8 => (Option.bind (bif (decide (y7 < (IntKind.wrap .u64 (y8 + x3)))) then (some (x0,(x1,(x2,((1 : Int),(x4,((IntKind.wrap .u64 (y7 + (4294967296 : Int))),(IntKind.wrap .u64 (y8 + x3))))))))) else (some (x0,(x1,(x2,((0 : Int),(x4,(y7,(IntKind.wrap .u64 (y8 + x3)))))))))) fun y9 => (bif (decide (((List.length y9.2.2.1) + (List.length ((IntKind.wrap .u32 (IntKind.wrap .u64 (y9.2.2.2.2.2.1 - y9.2.2.2.2.2.2))) :: ([] : LI)))) ≤ 68719476736)) then (c0 y9.1 y9.2.1 (y9.2.2.1 ++ ((IntKind.wrap .u32 (IntKind.wrap .u64 (y9.2.2.2.2.2.1 - y9.2.2.2.2.2.2))) :: ([] : LI))) y9.2.2.2.1 (IntKind.wrap .i64 (y9.2.2.2.2.1 + (1 : Int)))) else none)))) else (some x2))
def zR.l0 : Nat → LI → LI → LI → Int → Int → Option LI
 | 0,_,_,_,_,_ => none
 | k + 1,x0,x1,x2,x3,x4 => zR.b0 (zR.l0 k) x0 x1 x2 x3 x4
noncomputable def zR.V0 x0 x1 x2 x3 x4 := lim fun k => zR.l0 k x0 x1 x2 x3 x4
theorem zR.v0 x0 x1 x2 x3 x4 {y} (h : zR.b0 zR.V0 x0 x1 x2 x3 x4 = some y) : zR.V0 x0 x1 x2 x3 x4 = some y := Le.v (.succ (by unfold zR.l0 zR.b0;repeat (first | with_reducible first | exact Le.const | refine Le.bind ?_ fun _ => ?_ | refine Le.cond ?_ ?_ | refine Le.elim (fun _ => ?_) fun _ => ?_ | exact Le.of rfl))) h
def zR.L0 (k : Nat) : LFn := ⟨zR.h0,zR.o0,fun x => zR.l0 k x.1 x.2.1 x.2.2.1 x.2.2.2.1 x.2.2.2.2⟩
theorem zR.r0 (k : Nat) (x : Tup (sigTys zR.h0)) : roundK T0 (zR.env k) 38 76 [] zR.C (loopOf Tryz.f145 0) 0 zR.h0 zR.o0 (zR.L0 k).f x = (zR.L0 (k + 1)).f x := by kernel_rfl
theorem zR.s0 (k : Nat) : LoopSound P0 G0 38 76 (sigPins zR.hd) (zR.L0 k) (loopOf Tryz.f145 0) := loop_rounds (T := T0) hm0 hT0 (env := fun k => (zR.env k)) (nh := 76) (pn := sigPins zR.hd) (L := fun k => []) (C := zR.C) (by kernel_rfl) (hd := zR.h0) (os := zR.o0) (by kernel_rfl) (by kernel_rfl) (by kernel_rfl) (g := fun k => (zR.L0 k).f) (fun k => loops_in zR.d trivial) (fun _ => rfl) (fun k x => zR.r0 k x) k
def zR.b (c0 : LI → LI → LI → Int → Int → Option LI) (c1 : LI → Option LI) (a0 : LI) (a1 : LI) : Option LI := (Option.bind (c0 a0 (a1,(([] : LI),((0 : Int),(0 : Int)))).1 (a1,(([] : LI),((0 : Int),(0 : Int)))).2.1 (a1,(([] : LI),((0 : Int),(0 : Int)))).2.2.1 (a1,(([] : LI),((0 : Int),(0 : Int)))).2.2.2) fun y3 => (Option.bind (c1 y3) fun y4 => (some y4)))
def zR.f (k : Nat) a0 a1 := zR.b (zR.l0 k) (zl.f k) a0 a1
noncomputable def zR.V a0 a1 := lim fun k => zR.f k a0 a1
theorem zR.v a0 a1 {y} (h : zR.b zR.V0 zl.V a0 a1 = some y) : zR.V a0 a1 = some y := Le.v (by unfold zR.f zR.b;repeat (first | with_reducible first | exact Le.const | refine Le.bind ?_ fun _ => ?_ | refine Le.cond ?_ ?_ | refine Le.elim (fun _ => ?_) fun _ => ?_ | exact Le.of rfl)) h
theorem zR.e (k : Nat) (x : Tup (sigTys zR.hd)) : fnK T0 (zR.env k) [⟨0,zR.L0 k⟩] zR.C Tryz.f145 2 76 zR.hd zR.os x = zR.f k x.1 x.2 := by kernel_rfl
def zR.fn (k : Nat) : Kn P0 G0 := ⟨145,2,76,zR.hd,1,zR.os,fun x => zR.f k x.1 x.2,contract (T := T0) (fn := Tryz.f145) hm0 hT0 (by kernel_rfl) (by kernel_rfl) (L := [⟨0,zR.L0 k⟩]) (C := zR.C) (by kernel_rfl) (by decide) rfl (by kernel_rfl) (loops_fn zR.d ⟨zR.s0 k,trivial⟩) (zR.e k),none⟩
def zH.hd : Sig := [⟨false,0,(.imm (.list (.int .u32)))⟩,⟨false,1,(.imm (.int .i64))⟩]
def zH.os : List Sig := [[⟨false,0,(.own 45 false 111 (.int .u32))⟩]]
def zH.h0 : Sig := [⟨false,0,(.imm (.list (.int .u32)))⟩,⟨false,1,(.imm (.int .i64))⟩,⟨false,5,(.own 43 false 111 (.int .u32))⟩,⟨false,6,(.imm (.int .i64))⟩]
def zH.o0 : Outs := [((.exit 0),[⟨false,5,(.own 43 false 111 (.int .u32))⟩])]
def zH.C : List CutAt := [⟨8,[(.normal,[⟨false,0,(.imm (.list (.int .u32)))⟩,⟨false,1,(.imm (.int .i64))⟩,⟨false,5,(.own 43 false 111 (.int .u32))⟩,⟨false,6,(.imm (.int .i64))⟩,⟨false,7,(.imm (.int .u64))⟩])]⟩]
def zH.env (k : Nat) : List (Kn P0 G0) := [zl.fn k]
theorem zH.d : distN (loopIds (Tryz.f146.body.getD .skip) 0) = true := by kernel_rfl
def zH.b0 (c0 : LI → Int → LI → Int → Option LI) (x0 : LI) (x1 : Int) (x2 : LI) (x3 : Int) : Option LI := (bif (decide (x3 < (((List.length x0) : Nat) : Int))) then (bif (decide (((0 : Int) ≤ x3) ∧ (x3 < (((List.length x0) : Nat) : Int)))) then (Option.bind (bif (decide ((IntKind.wrap .i64 (x3 + (1 : Int))) < (((List.length x0) : Nat) : Int))) then (bif (decide (((0 : Int) ≤ (IntKind.wrap .i64 (x3 + (1 : Int)))) ∧ ((IntKind.wrap .i64 (x3 + (1 : Int))) < (((List.length x0) : Nat) : Int)))) then (some (x0,(x1,(x2,(x3,(bor .u64 (IntKind.wrap .u64 (rdL (0 : Int) x0 x3)) (shlI .u64 (IntKind.wrap .u64 (rdL (0 : Int) x0 (IntKind.wrap .i64 (x3 + (1 : Int))))) (32 : Int)))))))) else none) else (some (x0,(x1,(x2,(x3,(IntKind.wrap .u64 (rdL (0 : Int) x0 x3)))))))) fun y6 => (bif (decide ((IntKind.wrap .u64 (Int.tmod y6.2.1 (32 : Int))) < (0 : Int))) then none else (bif (decide (((List.length y6.2.2.1) + (List.length ((IntKind.wrap .u32 (shrI .u64 y6.2.2.2.2 (IntKind.wrap .u64 (Int.tmod y6.2.1 (32 : Int))))) :: ([] : LI)))) ≤ 68719476736)) then (c0 y6.1 y6.2.1 (y6.2.2.1 ++ ((IntKind.wrap .u32 (shrI .u64 y6.2.2.2.2 (IntKind.wrap .u64 (Int.tmod y6.2.1 (32 : Int))))) :: ([] : LI))) (IntKind.wrap .i64 (y6.2.2.2.1 + (1 : Int)))) else none))) else none) else (some x2))
def zH.l0 : Nat → LI → Int → LI → Int → Option LI
 | 0,_,_,_,_ => none
 | k + 1,x0,x1,x2,x3 => zH.b0 (zH.l0 k) x0 x1 x2 x3
noncomputable def zH.V0 x0 x1 x2 x3 := lim fun k => zH.l0 k x0 x1 x2 x3
theorem zH.v0 x0 x1 x2 x3 {y} (h : zH.b0 zH.V0 x0 x1 x2 x3 = some y) : zH.V0 x0 x1 x2 x3 = some y := Le.v (.succ (by unfold zH.l0 zH.b0;repeat (first | with_reducible first | exact Le.const | refine Le.bind ?_ fun _ => ?_ | refine Le.cond ?_ ?_ | refine Le.elim (fun _ => ?_) fun _ => ?_ | exact Le.of rfl))) h
def zH.L0 (k : Nat) : LFn := ⟨zH.h0,zH.o0,fun x => zH.l0 k x.1 x.2.1 x.2.2.1 x.2.2.2⟩
theorem zH.r0 (k : Nat) (x : Tup (sigTys zH.h0)) : roundK T0 (zH.env k) 46 92 [] zH.C (loopOf Tryz.f146 0) 0 zH.h0 zH.o0 (zH.L0 k).f x = (zH.L0 (k + 1)).f x := by kernel_rfl
theorem zH.s0 (k : Nat) : LoopSound P0 G0 46 92 (sigPins zH.hd) (zH.L0 k) (loopOf Tryz.f146 0) := loop_rounds (T := T0) hm0 hT0 (env := fun k => (zH.env k)) (nh := 92) (pn := sigPins zH.hd) (L := fun k => []) (C := zH.C) (by kernel_rfl) (hd := zH.h0) (os := zH.o0) (by kernel_rfl) (by kernel_rfl) (by kernel_rfl) (g := fun k => (zH.L0 k).f) (fun k => loops_in zH.d trivial) (fun _ => rfl) (fun k x => zH.r0 k x) k
def zH.b (c0 : LI → Int → LI → Int → Option LI) (c1 : LI → Option LI) (a0 : LI) (a1 : Int) : Option LI := (Option.bind (c0 a0 (a1,(([] : LI),(IntKind.wrap .i64 (Int.tdiv a1 (32 : Int))))).1 (a1,(([] : LI),(IntKind.wrap .i64 (Int.tdiv a1 (32 : Int))))).2.1 (a1,(([] : LI),(IntKind.wrap .i64 (Int.tdiv a1 (32 : Int))))).2.2) fun y3 => (Option.bind (c1 y3) fun y4 => (some y4)))
def zH.f (k : Nat) a0 a1 := zH.b (zH.l0 k) (zl.f k) a0 a1
noncomputable def zH.V a0 a1 := lim fun k => zH.f k a0 a1
theorem zH.v a0 a1 {y} (h : zH.b zH.V0 zl.V a0 a1 = some y) : zH.V a0 a1 = some y := Le.v (by unfold zH.f zH.b;repeat (first | with_reducible first | exact Le.const | refine Le.bind ?_ fun _ => ?_ | refine Le.cond ?_ ?_ | refine Le.elim (fun _ => ?_) fun _ => ?_ | exact Le.of rfl)) h
theorem zH.e (k : Nat) (x : Tup (sigTys zH.hd)) : fnK T0 (zH.env k) [⟨0,zH.L0 k⟩] zH.C Tryz.f146 2 92 zH.hd zH.os x = zH.f k x.1 x.2 := by kernel_rfl
def zH.fn (k : Nat) : Kn P0 G0 := ⟨146,2,92,zH.hd,1,zH.os,fun x => zH.f k x.1 x.2,contract (T := T0) (fn := Tryz.f146) hm0 hT0 (by kernel_rfl) (by kernel_rfl) (L := [⟨0,zH.L0 k⟩]) (C := zH.C) (by kernel_rfl) (by decide) rfl (by kernel_rfl) (loops_fn zH.d ⟨zH.s0 k,trivial⟩) (zH.e k),none⟩
def zP.hd : Sig := [⟨false,0,(.imm (.list (.int .u32)))⟩,⟨false,1,(.imm (.list (.int .u32)))⟩]
def zP.os : List Sig := [[⟨false,0,(.agg ref03_Got (.acons (.own 55 false 111 (.int .u32)) (.acons (.own 15 false 111 (.int .u32)) (.acons (.imm .bool) .anil))))⟩]]
def zP.h0 : Sig := [⟨true,4,(.agg ref03_Got (.acons .nilS (.acons .nilS (.acons (.imm .bool) .anil))))⟩,⟨false,4,(.ptr 4 [] ref03_Got)⟩,⟨false,5,(.own 15 false 111 (.int .u32))⟩,⟨false,7,(.own 25 false 111 (.int .u32))⟩,⟨false,8,(.own 28 false 111 (.int .u32))⟩,⟨false,9,(.imm (.int .i64))⟩]
def zP.o0 : Outs := [((.exit 0),[⟨true,4,(.agg ref03_Got (.acons .nilS (.acons .nilS (.acons (.imm .bool) .anil))))⟩,⟨false,4,(.ptr 4 [] ref03_Got)⟩,⟨false,5,(.own 15 false 111 (.int .u32))⟩,⟨false,7,(.own 25 false 111 (.int .u32))⟩])]
def zP.C : List CutAt := []
def zP.env (k : Nat) : List (Kn P0 G0) := [zK.fn k,zl.fn k,yd.fn k,zM.fn k,zR.fn k,zH.fn k]
theorem zP.d : distN (loopIds (Tryz.f108.body.getD .skip) 0) = true := by kernel_rfl
def zP.b0 (c0 : LI → LI → Option Int) (c1 : LI → LI → Option LI) (c2 : LI → Int → Option LI) (c3 : Bool → LI → LI → LI → Int → Option (Bool × LI × LI)) (x0 : Bool) (x1 : LI) (x2 : LI) (x3 : LI) (x4 : Int) : Option (Bool × LI × LI) := (bif (decide (x4 ≥ (0 : Int))) then (Option.bind (c0 x1 x3) fun y7 => (bif (decide (y7 ≥ (0 : Int))) then (Option.bind (c1 x1 x3) fun y8 => (bif (decide (((0 : Int) ≤ (IntKind.wrap .i64 (Int.tdiv x4 (32 : Int)))) ∧ ((IntKind.wrap .i64 (Int.tdiv x4 (32 : Int))) < (((List.length x2) : Nat) : Int)))) then (bif (decide ((IntKind.wrap .u64 (Int.tmod x4 (32 : Int))) < (0 : Int))) then none else (bif (decide (((0 : Int) ≤ (IntKind.wrap .i64 (Int.tdiv x4 (32 : Int)))) ∧ ((IntKind.wrap .i64 (Int.tdiv x4 (32 : Int))) < (((List.length x2) : Nat) : Int)))) then (Option.bind (c2 x3 (1 : Int)) fun y9 => (c3 x0 y8 (List.set x2 (Int.toNat (IntKind.wrap .i64 (Int.tdiv x4 (32 : Int)))) (bor .u32 (rdL (0 : Int) x2 (IntKind.wrap .i64 (Int.tdiv x4 (32 : Int)))) (shlI .u32 (1 : Int) (IntKind.wrap .u64 (Int.tmod x4 (32 : Int)))))) y9 (IntKind.wrap .i64 (x4 - (1 : Int))))) else none)) else none)) else (Option.bind (c2 x3 (1 : Int)) fun y8 => (c3 x0 x1 x2 y8 (IntKind.wrap .i64 (x4 - (1 : Int))))))) else (some (x0,(x1,x2))))
def zP.l0 : Nat → Bool → LI → LI → LI → Int → Option (Bool × LI × LI)
 | 0,_,_,_,_,_ => none
 | k + 1,x0,x1,x2,x3,x4 => zP.b0 (zM.f k) (zR.f k) (zH.f k) (zP.l0 k) x0 x1 x2 x3 x4
noncomputable def zP.V0 x0 x1 x2 x3 x4 := lim fun k => zP.l0 k x0 x1 x2 x3 x4
theorem zP.v0 x0 x1 x2 x3 x4 {y} (h : zP.b0 zM.V zR.V zH.V zP.V0 x0 x1 x2 x3 x4 = some y) : zP.V0 x0 x1 x2 x3 x4 = some y := Le.v (.succ (by unfold zP.l0 zP.b0;repeat (first | with_reducible first | exact Le.const | refine Le.bind ?_ fun _ => ?_ | refine Le.cond ?_ ?_ | refine Le.elim (fun _ => ?_) fun _ => ?_ | exact Le.of rfl))) h
def zP.L0 (k : Nat) : LFn := ⟨zP.h0,zP.o0,fun x => zP.l0 k x.1 x.2.1 x.2.2.1 x.2.2.2.1 x.2.2.2.2⟩
theorem zP.r0 (k : Nat) (x : Tup (sigTys zP.h0)) : roundK T0 (zP.env k) 58 116 [] zP.C (loopOf Tryz.f108 0) 0 zP.h0 zP.o0 (zP.L0 k).f x = (zP.L0 (k + 1)).f x := by kernel_rfl
theorem zP.s0 (k : Nat) : LoopSound P0 G0 58 116 (sigPins zP.hd) (zP.L0 k) (loopOf Tryz.f108 0) := loop_rounds (T := T0) hm0 hT0 (env := fun k => (zP.env k)) (nh := 116) (pn := sigPins zP.hd) (L := fun k => []) (C := zP.C) (by kernel_rfl) (hd := zP.h0) (os := zP.o0) (by kernel_rfl) (by kernel_rfl) (by kernel_rfl) (g := fun k => (zP.L0 k).f) (fun k => loops_in zP.d trivial) (fun _ => rfl) (fun k x => zP.r0 k x) k
def zP.b (c0 : LI → Option Int) (c1 : LI → Option LI) (c2 : LI → Int → Option LI) (c3 : Bool → LI → LI → LI → Int → Option (Bool × LI × LI)) (a0 : LI) (a1 : LI) : Option (LI × LI × Bool) := (Option.bind (c0 a1) fun y3 => (bif (y3 == (0 : Int)) then (some (([] : LI),(([] : LI),false))) else (Option.bind (c1 a0) fun y4 => (Option.bind (c0 a0) fun y5 => (Option.bind (c0 a1) fun y6 => (bif (decide (((0 : Int) ≤ (IntKind.wrap .i64 ((IntKind.wrap .i64 (Int.tdiv (mxI (0 : Int) (IntKind.wrap .i64 (y5 - y6))) (32 : Int))) + (1 : Int)))) ∧ (((IntKind.wrap .i64 ((IntKind.wrap .i64 (Int.tdiv (mxI (0 : Int) (IntKind.wrap .i64 (y5 - y6))) (32 : Int))) + (1 : Int))) ≤ (IntKind.wrap .i64 ((IntKind.wrap .i64 (Int.tdiv (mxI (0 : Int) (IntKind.wrap .i64 (y5 - y6))) (32 : Int))) + (1 : Int)))) ∧ ((IntKind.wrap .i64 ((IntKind.wrap .i64 (Int.tdiv (mxI (0 : Int) (IntKind.wrap .i64 (y5 - y6))) (32 : Int))) + (1 : Int))) ≤ ((68719476736 : Nat) : Int))))) then (Option.bind (c2 a1 (mxI (0 : Int) (IntKind.wrap .i64 (y5 - y6)))) fun y7 => (Option.bind (c3 (Ty.zero (.pair .bool .unit)).1 (y4,((List.replicate (Int.toNat (IntKind.wrap .i64 ((IntKind.wrap .i64 (Int.tdiv (mxI (0 : Int) (IntKind.wrap .i64 (y5 - y6))) (32 : Int))) + (1 : Int)))) (0 : Int)),(y7,(mxI (0 : Int) (IntKind.wrap .i64 (y5 - y6)))))).1 (y4,((List.replicate (Int.toNat (IntKind.wrap .i64 ((IntKind.wrap .i64 (Int.tdiv (mxI (0 : Int) (IntKind.wrap .i64 (y5 - y6))) (32 : Int))) + (1 : Int)))) (0 : Int)),(y7,(mxI (0 : Int) (IntKind.wrap .i64 (y5 - y6)))))).2.1 (y4,((List.replicate (Int.toNat (IntKind.wrap .i64 ((IntKind.wrap .i64 (Int.tdiv (mxI (0 : Int) (IntKind.wrap .i64 (y5 - y6))) (32 : Int))) + (1 : Int)))) (0 : Int)),(y7,(mxI (0 : Int) (IntKind.wrap .i64 (y5 - y6)))))).2.2.1 (y4,((List.replicate (Int.toNat (IntKind.wrap .i64 ((IntKind.wrap .i64 (Int.tdiv (mxI (0 : Int) (IntKind.wrap .i64 (y5 - y6))) (32 : Int))) + (1 : Int)))) (0 : Int)),(y7,(mxI (0 : Int) (IntKind.wrap .i64 (y5 - y6)))))).2.2.2) fun y8 => (Option.bind (c1 y8.2.2) fun y9 => (some (y9,(y8.2.1,true)))))) else none))))))
def zP.f (k : Nat) a0 a1 := zP.b (zK.f k) (zl.f k) (yd.f k) (zP.l0 k) a0 a1
noncomputable def zP.V a0 a1 := lim fun k => zP.f k a0 a1
theorem zP.v a0 a1 {y} (h : zP.b zK.V zl.V yd.V zP.V0 a0 a1 = some y) : zP.V a0 a1 = some y := Le.v (by unfold zP.f zP.b;repeat (first | with_reducible first | exact Le.const | refine Le.bind ?_ fun _ => ?_ | refine Le.cond ?_ ?_ | refine Le.elim (fun _ => ?_) fun _ => ?_ | exact Le.of rfl)) h
theorem zP.e (k : Nat) (x : Tup (sigTys zP.hd)) : fnK T0 (zP.env k) [⟨0,zP.L0 k⟩] zP.C Tryz.f108 2 116 zP.hd zP.os x = zP.f k x.1 x.2 := by kernel_rfl
def zP.fn (k : Nat) : Kn P0 G0 := ⟨108,2,116,zP.hd,1,zP.os,fun x => zP.f k x.1 x.2,contract (T := T0) (fn := Tryz.f108) hm0 hT0 (by kernel_rfl) (by kernel_rfl) (L := [⟨0,zP.L0 k⟩]) (C := zP.C) (by kernel_rfl) (by decide) rfl (by kernel_rfl) (loops_fn zP.d ⟨zP.s0 k,trivial⟩) (zP.e k),none⟩
def zS.hd : Sig := [⟨false,0,(.imm (.list (.int .u32)))⟩,⟨false,1,(.imm (.list (.int .u32)))⟩]
def zS.os : List Sig := [[⟨false,0,(.own 8 false 111 (.int .u32))⟩]]
def zS.h0 : Sig := [⟨false,5,(.own 8 false 111 (.int .u32))⟩,⟨false,6,(.own 10 false 111 (.int .u32))⟩]
def zS.o0 : Outs := [((.exit 0),[⟨false,5,(.own 8 false 111 (.int .u32))⟩])]
def zS.C : List CutAt := []
def zS.env (k : Nat) : List (Kn P0 G0) := [zl.fn k,zP.fn k]
theorem zS.d : distN (loopIds (Tryz.f72.body.getD .skip) 0) = true := by kernel_rfl
def zS.b0 (c0 : LI → LI → Option (LI × LI × Bool)) (c1 : LI → LI → Option LI) (x0 : LI) (x1 : LI) : Option LI := (bif (decide ((((List.length x1) : Nat) : Int) > (0 : Int))) then (Option.bind (c0 x0 x1) fun y4 => (c1 x1 y4.2.1)) else (some x0))
def zS.l0 : Nat → LI → LI → Option LI
 | 0,_,_ => none
 | k + 1,x0,x1 => zS.b0 (zP.f k) (zS.l0 k) x0 x1
noncomputable def zS.V0 x0 x1 := lim fun k => zS.l0 k x0 x1
theorem zS.v0 x0 x1 {y} (h : zS.b0 zP.V zS.V0 x0 x1 = some y) : zS.V0 x0 x1 = some y := Le.v (.succ (by unfold zS.l0 zS.b0;repeat (first | with_reducible first | exact Le.const | refine Le.bind ?_ fun _ => ?_ | refine Le.cond ?_ ?_ | refine Le.elim (fun _ => ?_) fun _ => ?_ | exact Le.of rfl))) h
def zS.L0 (k : Nat) : LFn := ⟨zS.h0,zS.o0,fun x => zS.l0 k x.1 x.2⟩
theorem zS.r0 (k : Nat) (x : Tup (sigTys zS.h0)) : roundK T0 (zS.env k) 20 40 [] zS.C (loopOf Tryz.f72 0) 0 zS.h0 zS.o0 (zS.L0 k).f x = (zS.L0 (k + 1)).f x := by kernel_rfl
theorem zS.s0 (k : Nat) : LoopSound P0 G0 20 40 (sigPins zS.hd) (zS.L0 k) (loopOf Tryz.f72 0) := loop_rounds (T := T0) hm0 hT0 (env := fun k => (zS.env k)) (nh := 40) (pn := sigPins zS.hd) (L := fun k => []) (C := zS.C) (by kernel_rfl) (hd := zS.h0) (os := zS.o0) (by kernel_rfl) (by kernel_rfl) (by kernel_rfl) (g := fun k => (zS.L0 k).f) (fun k => loops_in zS.d trivial) (fun _ => rfl) (fun k x => zS.r0 k x) k
def zS.b (c0 : LI → Option LI) (c1 : LI → LI → Option LI) (a0 : LI) (a1 : LI) : Option LI := (Option.bind (c0 a0) fun y3 => (Option.bind (c0 a1) fun y4 => (Option.bind (c1 y3 y4) fun y5 => (some y5))))
def zS.f (k : Nat) a0 a1 := zS.b (zl.f k) (zS.l0 k) a0 a1
noncomputable def zS.V a0 a1 := lim fun k => zS.f k a0 a1
theorem zS.v a0 a1 {y} (h : zS.b zl.V zS.V0 a0 a1 = some y) : zS.V a0 a1 = some y := Le.v (by unfold zS.f zS.b;repeat (first | with_reducible first | exact Le.const | refine Le.bind ?_ fun _ => ?_ | refine Le.cond ?_ ?_ | refine Le.elim (fun _ => ?_) fun _ => ?_ | exact Le.of rfl)) h
theorem zS.e (k : Nat) (x : Tup (sigTys zS.hd)) : fnK T0 (zS.env k) [⟨0,zS.L0 k⟩] zS.C Tryz.f72 2 40 zS.hd zS.os x = zS.f k x.1 x.2 := by kernel_rfl
def zS.fn (k : Nat) : Kn P0 G0 := ⟨72,2,40,zS.hd,1,zS.os,fun x => zS.f k x.1 x.2,contract (T := T0) (fn := Tryz.f72) hm0 hT0 (by kernel_rfl) (by kernel_rfl) (L := [⟨0,zS.L0 k⟩]) (C := zS.C) (by kernel_rfl) (by decide) rfl (by kernel_rfl) (loops_fn zS.d ⟨zS.s0 k,trivial⟩) (zS.e k),none⟩
def ym.hd : Sig := [⟨false,0,(.imm api_Rat)⟩]
def ym.os : List Sig := [[⟨false,0,(.imm .bool)⟩]]
def ym.C : List CutAt := [⟨1000001,[(.normal,[⟨true,1,(.imm api_Rat)⟩,⟨false,1,(.ptr 1 [] api_Rat)⟩,⟨false,45,(.imm .bool)⟩])]⟩]
def ym.env (k : Nat) : List (Kn P0 G0) := [xA.fn,zS.fn k]
theorem ym.d : distN (loopIds (Tryz.f35.body.getD .skip) 0) = true := by kernel_rfl
def ym.b (c0 : LI → LI → Option LI) (a0 : RA) : Option Bool := (Option.bind (Option.bind (xA.f a0.1.2.1) fun y2 => (bif (!y2) then (some (a0,true)) else (Option.bind (xA.f a0.2.1) fun y3 => (bif (!y3) then (some (a0,true)) else (bif ((((List.length a0.2.1) : Nat) : Int) == (0 : Int)) then (some (a0,true)) else (bif a0.1.1 then (bif ((((List.length a0.1.2.1) : Nat) : Int) == (0 : Int)) then (some (a0,true)) else (bif (decide ((((List.length a0.1.2.1) : Nat) : Int) > (64 : Int))) then (some (a0,true)) else (some (a0,(decide ((((List.length a0.2.1) : Nat) : Int) > (64 : Int))))))) else (bif (decide ((((List.length a0.1.2.1) : Nat) : Int) > (64 : Int))) then (some (a0,true)) else (some (a0,(decide ((((List.length a0.2.1) : Nat) : Int) > (64 : Int)))))))))))) fun y2 => (bif y2.2 then (some false) else (Option.bind (c0 y2.1.1.2.1 y2.1.2.1) fun y3 => (bif ((((List.length y3) : Nat) : Int) == (1 : Int)) then (bif (decide (((0 : Int) ≤ (0 : Int)) ∧ ((0 : Int) < (((List.length y3) : Nat) : Int)))) then (some ((rdL (0 : Int) y3 (0 : Int)) == (1 : Int))) else none) else (some false)))))
def ym.f (k : Nat) a0 := ym.b (zS.f k) a0
noncomputable def ym.V a0 := lim fun k => ym.f k a0
theorem ym.v a0 {y} (h : ym.b zS.V a0 = some y) : ym.V a0 = some y := Le.v (by unfold ym.f ym.b;repeat (first | with_reducible first | exact Le.const | refine Le.bind ?_ fun _ => ?_ | refine Le.cond ?_ ?_ | refine Le.elim (fun _ => ?_) fun _ => ?_ | exact Le.of rfl)) h
theorem ym.e (k : Nat) (x : Tup (sigTys ym.hd)) : fnK T0 (ym.env k) [] ym.C Tryz.f35 1 122 ym.hd ym.os x = ym.f k x := by kernel_rfl
def ym.fn (k : Nat) : Kn P0 G0 := ⟨35,1,122,ym.hd,1,ym.os,fun x => ym.f k x,contract (T := T0) (fn := Tryz.f35) hm0 hT0 (by kernel_rfl) (by kernel_rfl) (L := []) (C := ym.C) (by kernel_rfl) (by decide) rfl (by kernel_rfl) (loops_fn ym.d trivial) (ym.e k),none⟩
def yI.hd : Sig := [⟨false,0,(.imm api_Int)⟩]
def yI.os : List Sig := [[⟨false,0,(.agg api_Int (.acons (.imm .bool) (.acons (.own 7 false 111 (.int .u32)) .anil)))⟩]]
def yI.C : List CutAt := []
def yI.env (k : Nat) : List (Kn P0 G0) := [zY.fn k]
theorem yI.d : distN (loopIds (Tryz.f160.body.getD .skip) 0) = true := by kernel_rfl
def yI.b (c0 : Bool → LI → Option (Bool × LI)) (a0 : WH) : Option (Bool × LI) := (Option.bind (c0 a0.1 a0.2.1) fun y2 => (some (y2.1,y2.2)))
def yI.f (k : Nat) a0 := yI.b (zY.f k) a0
noncomputable def yI.V a0 := lim fun k => yI.f k a0
theorem yI.v a0 {y} (h : yI.b zY.V a0 = some y) : yI.V a0 = some y := Le.v (by unfold yI.f yI.b;repeat (first | with_reducible first | exact Le.const | refine Le.bind ?_ fun _ => ?_ | refine Le.cond ?_ ?_ | refine Le.elim (fun _ => ?_) fun _ => ?_ | exact Le.of rfl)) h
theorem yI.e (k : Nat) (x : Tup (sigTys yI.hd)) : fnK T0 (yI.env k) [] yI.C Tryz.f160 1 16 yI.hd yI.os x = yI.f k x := by kernel_rfl
def yI.fn (k : Nat) : Kn P0 G0 := ⟨160,1,16,yI.hd,1,yI.os,fun x => yI.f k x,contract (T := T0) (fn := Tryz.f160) hm0 hT0 (by kernel_rfl) (by kernel_rfl) (L := []) (C := yI.C) (by kernel_rfl) (by decide) rfl (by kernel_rfl) (loops_fn yI.d trivial) (yI.e k),none⟩
def zE.hd : Sig := [⟨false,0,(.imm (.list (.int .u32)))⟩,⟨false,1,(.imm (.int .u32))⟩]
def zE.os : List Sig := [[⟨false,0,(.own 36 false 111 (.int .u32))⟩]]
def zE.h0 : Sig := [⟨false,0,(.imm (.list (.int .u32)))⟩,⟨false,1,(.imm (.int .u32))⟩,⟨false,5,(.own 28 false 111 (.int .u32))⟩,⟨false,6,(.imm (.int .u64))⟩,⟨false,7,(.imm (.int .i64))⟩]
def zE.o0 : Outs := [((.exit 0),[⟨false,5,(.own 28 false 111 (.int .u32))⟩,⟨false,6,(.imm (.int .u64))⟩])]
def zE.C : List CutAt := []
def zE.env (k : Nat) : List (Kn P0 G0) := [zl.fn k]
theorem zE.d : distN (loopIds (Tryz.f162.body.getD .skip) 0) = true := by kernel_rfl
def zE.b0 (c0 : LI → Int → LI → Int → Int → Option (LI × Int)) (x0 : LI) (x1 : Int) (x2 : LI) (x3 : Int) (x4 : Int) : Option (LI × Int) := (bif (decide (x4 < (((List.length x0) : Nat) : Int))) then (bif (decide (((0 : Int) ≤ x4) ∧ (x4 < (((List.length x0) : Nat) : Int)))) then (bif (decide (((List.length x2) + (List.length ((IntKind.wrap .u32 (IntKind.wrap .u64 (x3 + (IntKind.wrap .u64 ((IntKind.wrap .u64 (rdL (0 : Int) x0 x4)) * (IntKind.wrap .u64 x1)))))) :: ([] : LI)))) ≤ 68719476736)) then (c0 x0 x1 (x2 ++ ((IntKind.wrap .u32 (IntKind.wrap .u64 (x3 + (IntKind.wrap .u64 ((IntKind.wrap .u64 (rdL (0 : Int) x0 x4)) * (IntKind.wrap .u64 x1)))))) :: ([] : LI))) (shrI .u64 (IntKind.wrap .u64 (x3 + (IntKind.wrap .u64 ((IntKind.wrap .u64 (rdL (0 : Int) x0 x4)) * (IntKind.wrap .u64 x1))))) (32 : Int)) (IntKind.wrap .i64 (x4 + (1 : Int)))) else none) else none) else (some (x2,x3)))
def zE.l0 : Nat → LI → Int → LI → Int → Int → Option (LI × Int)
 | 0,_,_,_,_,_ => none
 | k + 1,x0,x1,x2,x3,x4 => zE.b0 (zE.l0 k) x0 x1 x2 x3 x4
noncomputable def zE.V0 x0 x1 x2 x3 x4 := lim fun k => zE.l0 k x0 x1 x2 x3 x4
theorem zE.v0 x0 x1 x2 x3 x4 {y} (h : zE.b0 zE.V0 x0 x1 x2 x3 x4 = some y) : zE.V0 x0 x1 x2 x3 x4 = some y := Le.v (.succ (by unfold zE.l0 zE.b0;repeat (first | with_reducible first | exact Le.const | refine Le.bind ?_ fun _ => ?_ | refine Le.cond ?_ ?_ | refine Le.elim (fun _ => ?_) fun _ => ?_ | exact Le.of rfl))) h
def zE.L0 (k : Nat) : LFn := ⟨zE.h0,zE.o0,fun x => zE.l0 k x.1 x.2.1 x.2.2.1 x.2.2.2.1 x.2.2.2.2⟩
theorem zE.r0 (k : Nat) (x : Tup (sigTys zE.h0)) : roundK T0 (zE.env k) 37 74 [] zE.C (loopOf Tryz.f162 0) 0 zE.h0 zE.o0 (zE.L0 k).f x = (zE.L0 (k + 1)).f x := by kernel_rfl
theorem zE.s0 (k : Nat) : LoopSound P0 G0 37 74 (sigPins zE.hd) (zE.L0 k) (loopOf Tryz.f162 0) := loop_rounds (T := T0) hm0 hT0 (env := fun k => (zE.env k)) (nh := 74) (pn := sigPins zE.hd) (L := fun k => []) (C := zE.C) (by kernel_rfl) (hd := zE.h0) (os := zE.o0) (by kernel_rfl) (by kernel_rfl) (by kernel_rfl) (g := fun k => (zE.L0 k).f) (fun k => loops_in zE.d trivial) (fun _ => rfl) (fun k x => zE.r0 k x) k
def zE.b (c0 : LI → Int → LI → Int → Int → Option (LI × Int)) (c1 : LI → Option LI) (a0 : LI) (a1 : Int) : Option LI := (Option.bind (c0 a0 (a1,(([] : LI),((0 : Int),(0 : Int)))).1 (a1,(([] : LI),((0 : Int),(0 : Int)))).2.1 (a1,(([] : LI),((0 : Int),(0 : Int)))).2.2.1 (a1,(([] : LI),((0 : Int),(0 : Int)))).2.2.2) fun y3 => (bif (decide (((List.length y3.1) + (List.length ((IntKind.wrap .u32 y3.2) :: ([] : LI)))) ≤ 68719476736)) then (Option.bind (c1 (y3.1 ++ ((IntKind.wrap .u32 y3.2) :: ([] : LI)))) fun y4 => (some y4)) else none))
def zE.f (k : Nat) a0 a1 := zE.b (zE.l0 k) (zl.f k) a0 a1
noncomputable def zE.V a0 a1 := lim fun k => zE.f k a0 a1
theorem zE.v a0 a1 {y} (h : zE.b zE.V0 zl.V a0 a1 = some y) : zE.V a0 a1 = some y := Le.v (by unfold zE.f zE.b;repeat (first | with_reducible first | exact Le.const | refine Le.bind ?_ fun _ => ?_ | refine Le.cond ?_ ?_ | refine Le.elim (fun _ => ?_) fun _ => ?_ | exact Le.of rfl)) h
theorem zE.e (k : Nat) (x : Tup (sigTys zE.hd)) : fnK T0 (zE.env k) [⟨0,zE.L0 k⟩] zE.C Tryz.f162 2 74 zE.hd zE.os x = zE.f k x.1 x.2 := by kernel_rfl
def zE.fn (k : Nat) : Kn P0 G0 := ⟨162,2,74,zE.hd,1,zE.os,fun x => zE.f k x.1 x.2,contract (T := T0) (fn := Tryz.f162) hm0 hT0 (by kernel_rfl) (by kernel_rfl) (L := [⟨0,zE.L0 k⟩]) (C := zE.C) (by kernel_rfl) (by decide) rfl (by kernel_rfl) (loops_fn zE.d ⟨zE.s0 k,trivial⟩) (zE.e k),none⟩
def zN.hd : Sig := [⟨false,0,(.imm (.list (.int .u32)))⟩,⟨false,1,(.imm (.list (.int .u32)))⟩]
def zN.os : List Sig := [[⟨false,0,(.own 41 false 111 (.int .u32))⟩]]
def zN.h0 : Sig := [⟨false,0,(.imm (.list (.int .u32)))⟩,⟨false,1,(.imm (.list (.int .u32)))⟩,⟨false,5,(.own 37 false 111 (.int .u32))⟩,⟨false,6,(.imm (.int .u64))⟩,⟨false,7,(.imm (.int .i64))⟩]
def zN.o0 : Outs := [((.exit 0),[⟨false,5,(.own 37 false 111 (.int .u32))⟩])]
def zN.C : List CutAt := [⟨1000004,[(.normal,[⟨false,0,(.imm (.list (.int .u32)))⟩,⟨false,1,(.imm (.list (.int .u32)))⟩,⟨false,5,(.own 37 false 111 (.int .u32))⟩,⟨false,6,(.imm (.int .u64))⟩,⟨false,7,(.imm (.int .i64))⟩,⟨false,21,(.imm .bool)⟩])]⟩]
def zN.env (k : Nat) : List (Kn P0 G0) := [xS.fn,zl.fn k]
theorem zN.d : distN (loopIds (Tryz.f161.body.getD .skip) 0) = true := by kernel_rfl
def zN.b0 (c0 : LI → LI → LI → Int → Int → Option LI) (x0 : LI) (x1 : LI) (x2 : LI) (x3 : Int) (x4 : Int) : Option LI := (Option.bind (bif (decide (x4 < (((List.length x0) : Nat) : Int))) then (some (x0,(x1,(x2,(x3,(x4,true)))))) else (bif (decide (x4 < (((List.length x1) : Nat) : Int))) then (some (x0,(x1,(x2,(x3,(x4,true)))))) else (some (x0,(x1,(x2,(x3,(x4,(decide (x3 > (0 : Int))))))))))) fun y7 => (bif y7.2.2.2.2.2 then (Option.bind (xS.f y7.1 y7.2.2.2.2.1) fun y8 => (Option.bind (xS.f y7.2.1 y7.2.2.2.2.1) fun y9 => (bif (decide (((List.length y7.2.2.1) + (List.length ((IntKind.wrap .u32 (IntKind.wrap .u64 (y7.2.2.2.1 + (IntKind.wrap .u64 (y8 + y9))))) :: ([] : LI)))) ≤ 68719476736)) then (c0 y7.1 y7.2.1 (y7.2.2.1 ++ ((IntKind.wrap .u32 (IntKind.wrap .u64 (y7.2.2.2.1 + (IntKind.wrap .u64 (y8 + y9))))) :: ([] : LI))) (shrI .u64 (IntKind.wrap .u64 (y7.2.2.2.1 + (IntKind.wrap .u64 (y8 + y9)))) (32 : Int)) (IntKind.wrap .i64 (y7.2.2.2.2.1 + (1 : Int)))) else none))) else (some y7.2.2.1)))
def zN.l0 : Nat → LI → LI → LI → Int → Int → Option LI
 | 0,_,_,_,_,_ => none
 | k + 1,x0,x1,x2,x3,x4 => zN.b0 (zN.l0 k) x0 x1 x2 x3 x4
noncomputable def zN.V0 x0 x1 x2 x3 x4 := lim fun k => zN.l0 k x0 x1 x2 x3 x4
theorem zN.v0 x0 x1 x2 x3 x4 {y} (h : zN.b0 zN.V0 x0 x1 x2 x3 x4 = some y) : zN.V0 x0 x1 x2 x3 x4 = some y := Le.v (.succ (by unfold zN.l0 zN.b0;repeat (first | with_reducible first | exact Le.const | refine Le.bind ?_ fun _ => ?_ | refine Le.cond ?_ ?_ | refine Le.elim (fun _ => ?_) fun _ => ?_ | exact Le.of rfl))) h
def zN.L0 (k : Nat) : LFn := ⟨zN.h0,zN.o0,fun x => zN.l0 k x.1 x.2.1 x.2.2.1 x.2.2.2.1 x.2.2.2.2⟩
theorem zN.r0 (k : Nat) (x : Tup (sigTys zN.h0)) : roundK T0 (zN.env k) 42 84 [] zN.C (loopOf Tryz.f161 0) 0 zN.h0 zN.o0 (zN.L0 k).f x = (zN.L0 (k + 1)).f x := by kernel_rfl
theorem zN.s0 (k : Nat) : LoopSound P0 G0 42 84 (sigPins zN.hd) (zN.L0 k) (loopOf Tryz.f161 0) := loop_rounds (T := T0) hm0 hT0 (env := fun k => (zN.env k)) (nh := 84) (pn := sigPins zN.hd) (L := fun k => []) (C := zN.C) (by kernel_rfl) (hd := zN.h0) (os := zN.o0) (by kernel_rfl) (by kernel_rfl) (by kernel_rfl) (g := fun k => (zN.L0 k).f) (fun k => loops_in zN.d trivial) (fun _ => rfl) (fun k x => zN.r0 k x) k
def zN.b (c0 : LI → LI → LI → Int → Int → Option LI) (c1 : LI → Option LI) (a0 : LI) (a1 : LI) : Option LI := (Option.bind (c0 a0 (a1,(([] : LI),((0 : Int),(0 : Int)))).1 (a1,(([] : LI),((0 : Int),(0 : Int)))).2.1 (a1,(([] : LI),((0 : Int),(0 : Int)))).2.2.1 (a1,(([] : LI),((0 : Int),(0 : Int)))).2.2.2) fun y3 => (Option.bind (c1 y3) fun y4 => (some y4)))
def zN.f (k : Nat) a0 a1 := zN.b (zN.l0 k) (zl.f k) a0 a1
noncomputable def zN.V a0 a1 := lim fun k => zN.f k a0 a1
theorem zN.v a0 a1 {y} (h : zN.b zN.V0 zl.V a0 a1 = some y) : zN.V a0 a1 = some y := Le.v (by unfold zN.f zN.b;repeat (first | with_reducible first | exact Le.const | refine Le.bind ?_ fun _ => ?_ | refine Le.cond ?_ ?_ | refine Le.elim (fun _ => ?_) fun _ => ?_ | exact Le.of rfl)) h
theorem zN.e (k : Nat) (x : Tup (sigTys zN.hd)) : fnK T0 (zN.env k) [⟨0,zN.L0 k⟩] zN.C Tryz.f161 2 84 zN.hd zN.os x = zN.f k x.1 x.2 := by kernel_rfl
def zN.fn (k : Nat) : Kn P0 G0 := ⟨161,2,84,zN.hd,1,zN.os,fun x => zN.f k x.1 x.2,contract (T := T0) (fn := Tryz.f161) hm0 hT0 (by kernel_rfl) (by kernel_rfl) (L := [⟨0,zN.L0 k⟩]) (C := zN.C) (by kernel_rfl) (by decide) rfl (by kernel_rfl) (loops_fn zN.d ⟨zN.s0 k,trivial⟩) (zN.e k),none⟩
def zO.hd : Sig := [⟨false,0,(.imm (.list (.int .u32)))⟩,⟨false,1,(.imm (.list (.int .u32)))⟩]
def zO.os : List Sig := [[⟨false,0,(.own 25 false 111 (.int .u32))⟩]]
def zO.h0 : Sig := [⟨false,0,(.imm (.list (.int .u32)))⟩,⟨false,1,(.imm (.list (.int .u32)))⟩,⟨false,5,(.own 23 false 111 (.int .u32))⟩,⟨false,6,(.imm (.int .i64))⟩]
def zO.o0 : Outs := [((.exit 0),[⟨false,5,(.own 23 false 111 (.int .u32))⟩])]
def zO.C : List CutAt := []
def zO.env (k : Nat) : List (Kn P0 G0) := [zE.fn k,yd.fn k,zN.fn k,zl.fn k]
theorem zO.d : distN (loopIds (Tryz.f130.body.getD .skip) 0) = true := by kernel_rfl
def zO.b0 (c0 : LI → Int → Option LI) (c1 : LI → Int → Option LI) (c2 : LI → LI → Option LI) (c3 : LI → LI → LI → Int → Option LI) (x0 : LI) (x1 : LI) (x2 : LI) (x3 : Int) : Option LI := (bif (decide (x3 < (((List.length x1) : Nat) : Int))) then (bif (decide (((0 : Int) ≤ x3) ∧ (x3 < (((List.length x1) : Nat) : Int)))) then (Option.bind (c0 x0 (rdL (0 : Int) x1 x3)) fun y6 => (Option.bind (c1 y6 (IntKind.wrap .i64 ((32 : Int) * x3))) fun y7 => (Option.bind (c2 x2 y7) fun y8 => (c3 x0 x1 y8 (IntKind.wrap .i64 (x3 + (1 : Int))))))) else none) else (some x2))
def zO.l0 : Nat → LI → LI → LI → Int → Option LI
 | 0,_,_,_,_ => none
 | k + 1,x0,x1,x2,x3 => zO.b0 (zE.f k) (yd.f k) (zN.f k) (zO.l0 k) x0 x1 x2 x3
noncomputable def zO.V0 x0 x1 x2 x3 := lim fun k => zO.l0 k x0 x1 x2 x3
theorem zO.v0 x0 x1 x2 x3 {y} (h : zO.b0 zE.V yd.V zN.V zO.V0 x0 x1 x2 x3 = some y) : zO.V0 x0 x1 x2 x3 = some y := Le.v (.succ (by unfold zO.l0 zO.b0;repeat (first | with_reducible first | exact Le.const | refine Le.bind ?_ fun _ => ?_ | refine Le.cond ?_ ?_ | refine Le.elim (fun _ => ?_) fun _ => ?_ | exact Le.of rfl))) h
def zO.L0 (k : Nat) : LFn := ⟨zO.h0,zO.o0,fun x => zO.l0 k x.1 x.2.1 x.2.2.1 x.2.2.2⟩
theorem zO.r0 (k : Nat) (x : Tup (sigTys zO.h0)) : roundK T0 (zO.env k) 26 52 [] zO.C (loopOf Tryz.f130 0) 0 zO.h0 zO.o0 (zO.L0 k).f x = (zO.L0 (k + 1)).f x := by kernel_rfl
theorem zO.s0 (k : Nat) : LoopSound P0 G0 26 52 (sigPins zO.hd) (zO.L0 k) (loopOf Tryz.f130 0) := loop_rounds (T := T0) hm0 hT0 (env := fun k => (zO.env k)) (nh := 52) (pn := sigPins zO.hd) (L := fun k => []) (C := zO.C) (by kernel_rfl) (hd := zO.h0) (os := zO.o0) (by kernel_rfl) (by kernel_rfl) (by kernel_rfl) (g := fun k => (zO.L0 k).f) (fun k => loops_in zO.d trivial) (fun _ => rfl) (fun k x => zO.r0 k x) k
def zO.b (c0 : LI → LI → LI → Int → Option LI) (c1 : LI → Option LI) (a0 : LI) (a1 : LI) : Option LI := (Option.bind (c0 a0 (a1,(([] : LI),(0 : Int))).1 (a1,(([] : LI),(0 : Int))).2.1 (a1,(([] : LI),(0 : Int))).2.2) fun y3 => (Option.bind (c1 y3) fun y4 => (some y4)))
def zO.f (k : Nat) a0 a1 := zO.b (zO.l0 k) (zl.f k) a0 a1
noncomputable def zO.V a0 a1 := lim fun k => zO.f k a0 a1
theorem zO.v a0 a1 {y} (h : zO.b zO.V0 zl.V a0 a1 = some y) : zO.V a0 a1 = some y := Le.v (by unfold zO.f zO.b;repeat (first | with_reducible first | exact Le.const | refine Le.bind ?_ fun _ => ?_ | refine Le.cond ?_ ?_ | refine Le.elim (fun _ => ?_) fun _ => ?_ | exact Le.of rfl)) h
theorem zO.e (k : Nat) (x : Tup (sigTys zO.hd)) : fnK T0 (zO.env k) [⟨0,zO.L0 k⟩] zO.C Tryz.f130 2 52 zO.hd zO.os x = zO.f k x.1 x.2 := by kernel_rfl
def zO.fn (k : Nat) : Kn P0 G0 := ⟨130,2,52,zO.hd,1,zO.os,fun x => zO.f k x.1 x.2,contract (T := T0) (fn := Tryz.f130) hm0 hT0 (by kernel_rfl) (by kernel_rfl) (L := [⟨0,zO.L0 k⟩]) (C := zO.C) (by kernel_rfl) (by decide) rfl (by kernel_rfl) (loops_fn zO.d ⟨zO.s0 k,trivial⟩) (zO.e k),none⟩
def yM.hd : Sig := [⟨false,0,(.imm api_Int)⟩,⟨false,1,(.imm api_Int)⟩]
def yM.os : List Sig := [[⟨false,0,(.agg api_Int (.acons (.imm .bool) (.acons (.own 17 false 111 (.int .u32)) .anil)))⟩]]
def yM.C : List CutAt := []
def yM.env (k : Nat) : List (Kn P0 G0) := [yI.fn k,zO.fn k,zY.fn k]
theorem yM.d : distN (loopIds (Tryz.f129.body.getD .skip) 0) = true := by kernel_rfl
def yM.b (c0 : WH → Option (Bool × LI)) (c1 : LI → LI → Option LI) (c2 : Bool → LI → Option (Bool × LI)) (a0 : WH) (a1 : WH) : Option (Bool × LI) := (Option.bind (c0 a0) fun y3 => (Option.bind (c0 a1) fun y4 => (Option.bind (c1 a0.2.1 a1.2.1) fun y5 => (Option.bind (c2 (!(y3.1 == y4.1)) y5) fun y6 => (some (y6.1,y6.2))))))
def yM.f (k : Nat) a0 a1 := yM.b (yI.f k) (zO.f k) (zY.f k) a0 a1
noncomputable def yM.V a0 a1 := lim fun k => yM.f k a0 a1
theorem yM.v a0 a1 {y} (h : yM.b yI.V zO.V zY.V a0 a1 = some y) : yM.V a0 a1 = some y := Le.v (by unfold yM.f yM.b;repeat (first | with_reducible first | exact Le.const | refine Le.bind ?_ fun _ => ?_ | refine Le.cond ?_ ?_ | refine Le.elim (fun _ => ?_) fun _ => ?_ | exact Le.of rfl)) h
theorem yM.e (k : Nat) (x : Tup (sigTys yM.hd)) : fnK T0 (yM.env k) [] yM.C Tryz.f129 2 36 yM.hd yM.os x = yM.f k x.1 x.2 := by kernel_rfl
def yM.fn (k : Nat) : Kn P0 G0 := ⟨129,2,36,yM.hd,1,yM.os,fun x => yM.f k x.1 x.2,contract (T := T0) (fn := Tryz.f129) hm0 hT0 (by kernel_rfl) (by kernel_rfl) (L := []) (C := yM.C) (by kernel_rfl) (by decide) rfl (by kernel_rfl) (loops_fn yM.d trivial) (yM.e k),none⟩
def yP.hd : Sig := [⟨false,0,(.imm api_Int)⟩,⟨false,1,(.imm (.list (.int .u32)))⟩]
def yP.os : List Sig := [[⟨false,0,(.agg api_Rat (.acons (.agg api_Int (.acons (.imm .bool) (.acons (.own 20 false 111 (.int .u32)) .anil))) (.acons (.own 49 false 111 (.int .u32)) .anil)))⟩]]
def yP.C : List CutAt := []
def yP.env (k : Nat) : List (Kn P0 G0) := [yI.fn k,zS.fn k,zP.fn k,zY.fn k]
theorem yP.d : distN (loopIds (Tryz.f128.body.getD .skip) 0) = true := by kernel_rfl
def yP.b (c0 : WH → Option (Bool × LI)) (c1 : LI → LI → Option LI) (c2 : LI → LI → Option (LI × LI × Bool)) (c3 : Bool → LI → Option (Bool × LI)) (a0 : WH) (a1 : LI) : Option (Bool × LI × LI) := (Option.bind (c0 a0) fun y3 => (Option.bind (c1 y3.2 a1) fun y4 => (Option.bind (c2 y3.2 y4) fun y5 => (Option.bind (c3 y3.1 y5.1) fun y6 => (Option.bind (c2 a1 y4) fun y7 => (some (y6.1,(y6.2,y7.1))))))))
def yP.f (k : Nat) a0 a1 := yP.b (yI.f k) (zS.f k) (zP.f k) (zY.f k) a0 a1
noncomputable def yP.V a0 a1 := lim fun k => yP.f k a0 a1
theorem yP.v a0 a1 {y} (h : yP.b yI.V zS.V zP.V zY.V a0 a1 = some y) : yP.V a0 a1 = some y := Le.v (by unfold yP.f yP.b;repeat (first | with_reducible first | exact Le.const | refine Le.bind ?_ fun _ => ?_ | refine Le.cond ?_ ?_ | refine Le.elim (fun _ => ?_) fun _ => ?_ | exact Le.of rfl)) h
theorem yP.e (k : Nat) (x : Tup (sigTys yP.hd)) : fnK T0 (yP.env k) [] yP.C Tryz.f128 2 52 yP.hd yP.os x = yP.f k x.1 x.2 := by kernel_rfl
def yP.fn (k : Nat) : Kn P0 G0 := ⟨128,2,52,yP.hd,1,yP.os,fun x => yP.f k x.1 x.2,contract (T := T0) (fn := Tryz.f128) hm0 hT0 (by kernel_rfl) (by kernel_rfl) (L := []) (C := yP.C) (by kernel_rfl) (by decide) rfl (by kernel_rfl) (loops_fn yP.d trivial) (yP.e k),none⟩
def yJ.hd : Sig := [⟨false,0,(.imm api_Rat)⟩,⟨false,1,(.imm api_Rat)⟩]
def yJ.os : List Sig := [[⟨false,0,(.agg api_Rat (.acons (.agg api_Int (.acons (.imm .bool) (.acons (.own 31 false 111 (.int .u32)) .anil))) (.acons (.own 15 false 111 (.int .u32)) .anil)))⟩]]
def yJ.C : List CutAt := []
def yJ.env (k : Nat) : List (Kn P0 G0) := [yM.fn k,zO.fn k,yP.fn k]
theorem yJ.d : distN (loopIds (Tryz.f92.body.getD .skip) 0) = true := by kernel_rfl
def yJ.b (c0 : WH → WH → Option (Bool × LI)) (c1 : LI → LI → Option LI) (c2 : WH → LI → Option (Bool × LI × LI)) (a0 : RA) (a1 : RA) : Option (Bool × LI × LI) := (Option.bind (c0 a0.1 a1.1) fun y3 => (Option.bind (c1 a0.2.1 a1.2.1) fun y4 => (Option.bind (c2 (y3.1,(y3.2,())) y4) fun y5 => (some (y5.1,(y5.2.1,y5.2.2))))))
def yJ.f (k : Nat) a0 a1 := yJ.b (yM.f k) (zO.f k) (yP.f k) a0 a1
noncomputable def yJ.V a0 a1 := lim fun k => yJ.f k a0 a1
theorem yJ.v a0 a1 {y} (h : yJ.b yM.V zO.V yP.V a0 a1 = some y) : yJ.V a0 a1 = some y := Le.v (by unfold yJ.f yJ.b;repeat (first | with_reducible first | exact Le.const | refine Le.bind ?_ fun _ => ?_ | refine Le.cond ?_ ?_ | refine Le.elim (fun _ => ?_) fun _ => ?_ | exact Le.of rfl)) h
theorem yJ.e (k : Nat) (x : Tup (sigTys yJ.hd)) : fnK T0 (yJ.env k) [] yJ.C Tryz.f92 2 32 yJ.hd yJ.os x = yJ.f k x.1 x.2 := by kernel_rfl
def yJ.fn (k : Nat) : Kn P0 G0 := ⟨92,2,32,yJ.hd,1,yJ.os,fun x => yJ.f k x.1 x.2,contract (T := T0) (fn := Tryz.f92) hm0 hT0 (by kernel_rfl) (by kernel_rfl) (L := []) (C := yJ.C) (by kernel_rfl) (by decide) rfl (by kernel_rfl) (loops_fn yJ.d trivial) (yJ.e k),none⟩
def xi.hd : Sig := [⟨false,0,(.imm api_Rat)⟩]
def xi.os : List Sig := [[⟨false,0,(.agg ref07_Got (.acons (.agg api_Rat (.acons (.agg api_Int (.acons (.imm .bool) (.acons (.imm (.list (.int .u32))) .anil))) (.acons (.imm (.list (.int .u32))) .anil))) (.acons (.imm (.int .i64)) .anil)))⟩]]
def xi.C : List CutAt := []
def xi.env : List (Kn P0 G0) := []
theorem xi.d : distN (loopIds (Tryz.f91.body.getD .skip) 0) = true := by kernel_rfl
def xi.f (a0 : RA) : Option (Bool × LI × LI × Int) := (bif (decide ((((List.length a0.1.2.1) : Nat) : Int) > (64 : Int))) then (some (false,(([] : LI),(([] : LI),(2 : Int))))) else (bif (decide ((((List.length a0.2.1) : Nat) : Int) > (64 : Int))) then (some (false,(([] : LI),(([] : LI),(2 : Int))))) else (some (a0.1.1,(a0.1.2.1,(a0.2.1,((0 : Int),()).1))))))
theorem xi.e (x : Tup (sigTys xi.hd)) : fnK T0 xi.env [] xi.C Tryz.f91 1 34 xi.hd xi.os x = xi.f x := by kernel_rfl
def xi.fn : Kn P0 G0 := ⟨91,1,34,xi.hd,1,xi.os,fun x => xi.f x,contract (T := T0) (fn := Tryz.f91) hm0 hT0 (by kernel_rfl) (by kernel_rfl) (L := []) (C := xi.C) (by kernel_rfl) (by decide) rfl (by kernel_rfl) (loops_fn xi.d trivial) (xi.e),none⟩
def yX.hd : Sig := [⟨false,0,(.imm api_Rat)⟩,⟨false,1,(.imm api_Rat)⟩]
def yX.os : List Sig := [[⟨false,0,(.agg ref07_Got (.acons (.agg api_Rat (.acons (.agg api_Int (.acons (.imm .bool) (.acons (.imm (.list (.int .u32))) .anil))) (.acons (.imm (.list (.int .u32))) .anil))) (.acons (.imm (.int .i64)) .anil)))⟩]]
def yX.C : List CutAt := []
def yX.env (k : Nat) : List (Kn P0 G0) := [ym.fn k,zY.fn k,yJ.fn k,xi.fn]
theorem yX.d : distN (loopIds (Tryz.f46.body.getD .skip) 0) = true := by kernel_rfl
def yX.b (c0 : RA → Option Bool) (c1 : Bool → LI → Option (Bool × LI)) (c2 : RA → RA → Option (Bool × LI × LI)) (a0 : RA) (a1 : RA) : Option (Bool × LI × LI × Int) := (Option.bind (c0 a0) fun y3 => (bif (!y3) then (some (false,(([] : LI),(([] : LI),(1 : Int))))) else (Option.bind (c0 a1) fun y4 => (bif (!y4) then (some (false,(([] : LI),(([] : LI),(1 : Int))))) else (bif ((((List.length a1.1.2.1) : Nat) : Int) == (0 : Int)) then (some (false,(([] : LI),(([] : LI),(3 : Int))))) else (Option.bind (c1 a1.1.1 a1.2.1) fun y5 => (Option.bind (c2 a0 ((y5.1,(y5.2,())),(a1.1.2.1,()))) fun y6 => (Option.bind (xi.f ((y6.1,(y6.2.1,())),(y6.2.2,()))) fun y7 => (some (y7.1,(y7.2.1,(y7.2.2.1,y7.2.2.2))))))))))))
def yX.f (k : Nat) a0 a1 := yX.b (ym.f k) (zY.f k) (yJ.f k) a0 a1
noncomputable def yX.V a0 a1 := lim fun k => yX.f k a0 a1
theorem yX.v a0 a1 {y} (h : yX.b ym.V zY.V yJ.V a0 a1 = some y) : yX.V a0 a1 = some y := Le.v (by unfold yX.f yX.b;repeat (first | with_reducible first | exact Le.const | refine Le.bind ?_ fun _ => ?_ | refine Le.cond ?_ ?_ | refine Le.elim (fun _ => ?_) fun _ => ?_ | exact Le.of rfl)) h
theorem yX.e (k : Nat) (x : Tup (sigTys yX.hd)) : fnK T0 (yX.env k) [] yX.C Tryz.f46 2 66 yX.hd yX.os x = yX.f k x.1 x.2 := by kernel_rfl
def yX.fn (k : Nat) : Kn P0 G0 := ⟨46,2,66,yX.hd,1,yX.os,fun x => yX.f k x.1 x.2,contract (T := T0) (fn := Tryz.f46) hm0 hT0 (by kernel_rfl) (by kernel_rfl) (L := []) (C := yX.C) (by kernel_rfl) (by decide) rfl (by kernel_rfl) (loops_fn yX.d trivial) (yX.e k),none⟩
def wa.hd : Sig := [⟨false,0,(.imm (.int .i64))⟩,⟨false,1,(.imm (.int .i64))⟩]
def wa.os : List Sig := [[⟨false,0,(.agg api_Rat (.acons (.agg api_Int (.acons (.imm .bool) (.acons (.imm (.list (.int .u32))) .anil))) (.acons (.imm (.list (.int .u32))) .anil)))⟩]]
def wa.C : List CutAt := []
def wa.env (k : Nat) : List (Kn P0 G0) := [yp.fn k,yX.fn k]
theorem wa.d : distN (loopIds (Tryz.f24.body.getD .skip) 0) = true := by kernel_rfl
def wa.b (c0 : Int → Option (Bool × LI × LI)) (c1 : RA → RA → Option (Bool × LI × LI × Int)) (a0 : Int) (a1 : Int) : Option (Bool × LI × LI) := (Option.bind (c0 a0) fun y3 => (Option.bind (c0 a1) fun y4 => (Option.bind (c1 ((y3.1,(y3.2.1,())),(y3.2.2,())) ((y4.1,(y4.2.1,())),(y4.2.2,()))) fun y5 => (some (y5.1,(y5.2.1,y5.2.2.1))))))
def wa.f (k : Nat) a0 a1 := wa.b (yp.f k) (yX.f k) a0 a1
theorem wa.e (k : Nat) (x : Tup (sigTys wa.hd)) : fnK T0 (wa.env k) [] wa.C Tryz.f24 2 26 wa.hd wa.os x = wa.f k x.1 x.2 := by kernel_rfl
def wa.fn (k : Nat) : Kn P0 G0 := ⟨24,2,26,wa.hd,1,wa.os,fun x => wa.f k x.1 x.2,contract (T := T0) (fn := Tryz.f24) hm0 hT0 (by kernel_rfl) (by kernel_rfl) (L := []) (C := wa.C) (by kernel_rfl) (by decide) rfl (by kernel_rfl) (loops_fn wa.d trivial) (wa.e k),none⟩
def xZ.hd : Sig := [⟨false,0,(.imm (.int .i64))⟩]
def xZ.os : List Sig := [[⟨false,0,(.agg api_Term (.acons (.imm (.int .i64)) (.acons (.imm (.int .i64)) (.acons (.imm (.int .i64)) (.acons (.imm (.int .i64)) (.acons (.agg api_Rat (.acons (.agg api_Int (.acons (.imm .bool) (.acons (.imm (.list (.int .u32))) .anil))) (.acons (.imm (.list (.int .u32))) .anil))) .anil))))))⟩]]
def xZ.C : List CutAt := []
def xZ.env (k : Nat) : List (Kn P0 G0) := [wa.fn k]
theorem xZ.d : distN (loopIds (Tryz.f23.body.getD .skip) 0) = true := by kernel_rfl
def xZ.b (c0 : Int → Int → Option (Bool × LI × LI)) (a0 : Int) : Option (Int × Int × Int × Int × Bool × LI × LI) := (Option.bind (c0 a0 (1 : Int)) fun y2 => (some ((1 : Int),((0 : Int),((0 : Int),((0 : Int),(y2.1,(y2.2.1,y2.2.2))))))))
def xZ.f (k : Nat) a0 := xZ.b (wa.f k) a0
theorem xZ.e (k : Nat) (x : Tup (sigTys xZ.hd)) : fnK T0 (xZ.env k) [] xZ.C Tryz.f23 1 12 xZ.hd xZ.os x = xZ.f k x := by kernel_rfl
def xZ.fn (k : Nat) : Kn P0 G0 := ⟨23,1,12,xZ.hd,1,xZ.os,fun x => xZ.f k x,contract (T := T0) (fn := Tryz.f23) hm0 hT0 (by kernel_rfl) (by kernel_rfl) (L := []) (C := xZ.C) (by kernel_rfl) (by decide) rfl (by kernel_rfl) (loops_fn xZ.d trivial) (xZ.e k),none⟩
def xj.hd : Sig := [⟨true,22,(.imm (.int .i64))⟩,⟨false,0,(.imm (.int .i64))⟩,⟨false,1,(.ptr 22 [] (.int .i64))⟩]
def xj.os : List Sig := [[⟨true,22,(.imm (.int .i64))⟩,⟨false,0,(.imm .bool)⟩]]
def xj.C : List CutAt := []
def xj.env : List (Kn P0 G0) := []
theorem xj.d : distN (loopIds (Tryz.f132.body.getD .skip) 0) = true := by kernel_rfl
def xj.f (a0 : Int) (a1 : Int) : Option (Int × Bool) := (bif (decide (a1 ≥ (0 : Int))) then (some (a0,(decide (a1 < a0)))) else (some (a0,false)))
theorem xj.e (x : Tup (sigTys xj.hd)) : fnK T0 xj.env [] xj.C Tryz.f132 2 23 xj.hd xj.os x = xj.f x.1 x.2 := by kernel_rfl
def xj.fn : Kn P0 G0 := ⟨132,2,23,xj.hd,1,xj.os,fun x => xj.f x.1 x.2,contract (T := T0) (fn := Tryz.f132) hm0 hT0 (by kernel_rfl) (by kernel_rfl) (L := []) (C := xj.C) (by kernel_rfl) (by decide) rfl (by kernel_rfl) (loops_fn xj.d trivial) (xj.e),none⟩
def xQ.hd : Sig := [⟨false,0,(.imm (.list (.int .u32)))⟩]
def xQ.os : List Sig := [[⟨false,0,(.imm .bool)⟩]]
def xQ.C : List CutAt := []
def xQ.env : List (Kn P0 G0) := []
theorem xQ.d : distN (loopIds (Tryz.f109.body.getD .skip) 0) = true := by kernel_rfl
def xQ.f (a0 : LI) : Option Bool := (bif ((((List.length a0) : Nat) : Int) == (0 : Int)) then (some true) else (bif (decide (((0 : Int) ≤ (IntKind.wrap .i64 ((((List.length a0) : Nat) : Int) - (1 : Int)))) ∧ ((IntKind.wrap .i64 ((((List.length a0) : Nat) : Int) - (1 : Int))) < (((List.length a0) : Nat) : Int)))) then (some ((rdL (0 : Int) a0 (IntKind.wrap .i64 ((((List.length a0) : Nat) : Int) - (1 : Int)))) != (0 : Int))) else none))
theorem xQ.e (x : Tup (sigTys xQ.hd)) : fnK T0 xQ.env [] xQ.C Tryz.f109 1 30 xQ.hd xQ.os x = xQ.f x := by kernel_rfl
def xQ.fn : Kn P0 G0 := ⟨109,1,30,xQ.hd,1,xQ.os,fun x => xQ.f x,contract (T := T0) (fn := Tryz.f109) hm0 hT0 (by kernel_rfl) (by kernel_rfl) (L := []) (C := xQ.C) (by kernel_rfl) (by decide) rfl (by kernel_rfl) (loops_fn xQ.d trivial) (xQ.e),none⟩
def zX.hd : Sig := [⟨false,0,(.imm (.list (.int .u32)))⟩]
def zX.os : List Sig := [[⟨false,0,(.imm (.int .i64))⟩]]
def zX.h0 : Sig := [⟨false,0,(.imm (.list (.int .u32)))⟩,⟨false,3,(.imm (.int .i64))⟩]
def zX.o0 : Outs := [((.exit 0),[⟨false,3,(.imm (.int .i64))⟩])]
def zX.C : List CutAt := []
def zX.env (k : Nat) : List (Kn P0 G0) := []
theorem zX.d : distN (loopIds (Tryz.f147.body.getD .skip) 0) = true := by kernel_rfl
def zX.b0 (c0 : LI → Int → Option Int) (x0 : LI) (x1 : Int) : Option Int := (bif (decide (x1 > (0 : Int))) then (bif (decide (((0 : Int) ≤ (IntKind.wrap .i64 (x1 - (1 : Int)))) ∧ ((IntKind.wrap .i64 (x1 - (1 : Int))) < (((List.length x0) : Nat) : Int)))) then (bif ((rdL (0 : Int) x0 (IntKind.wrap .i64 (x1 - (1 : Int)))) == (0 : Int)) then (c0 x0 (IntKind.wrap .i64 (x1 - (1 : Int)))) else (some x1)) else none) else (some x1))
def zX.l0 : Nat → LI → Int → Option Int
 | 0,_,_ => none
 | k + 1,x0,x1 => zX.b0 (zX.l0 k) x0 x1
noncomputable def zX.V0 x0 x1 := lim fun k => zX.l0 k x0 x1
theorem zX.v0 x0 x1 {y} (h : zX.b0 zX.V0 x0 x1 = some y) : zX.V0 x0 x1 = some y := Le.v (.succ (by unfold zX.l0 zX.b0;repeat (first | with_reducible first | exact Le.const | refine Le.bind ?_ fun _ => ?_ | refine Le.cond ?_ ?_ | refine Le.elim (fun _ => ?_) fun _ => ?_ | exact Le.of rfl))) h
def zX.L0 (k : Nat) : LFn := ⟨zX.h0,zX.o0,fun x => zX.l0 k x.1 x.2⟩
theorem zX.r0 (k : Nat) (x : Tup (sigTys zX.h0)) : roundK T0 (zX.env k) 19 38 [] zX.C (loopOf Tryz.f147 0) 0 zX.h0 zX.o0 (zX.L0 k).f x = (zX.L0 (k + 1)).f x := by kernel_rfl
theorem zX.s0 (k : Nat) : LoopSound P0 G0 19 38 (sigPins zX.hd) (zX.L0 k) (loopOf Tryz.f147 0) := loop_rounds (T := T0) hm0 hT0 (env := fun k => (zX.env k)) (nh := 38) (pn := sigPins zX.hd) (L := fun k => []) (C := zX.C) (by kernel_rfl) (hd := zX.h0) (os := zX.o0) (by kernel_rfl) (by kernel_rfl) (by kernel_rfl) (g := fun k => (zX.L0 k).f) (fun k => loops_in zX.d trivial) (fun _ => rfl) (fun k x => zX.r0 k x) k
def zX.b (c0 : LI → Int → Option Int) (a0 : LI) : Option Int := (Option.bind (c0 a0 (((List.length a0) : Nat) : Int)) fun y2 => (some y2))
def zX.f (k : Nat) a0 := zX.b (zX.l0 k) a0
noncomputable def zX.V a0 := lim fun k => zX.f k a0
theorem zX.v a0 {y} (h : zX.b zX.V0 a0 = some y) : zX.V a0 = some y := Le.v (by unfold zX.f zX.b;repeat (first | with_reducible first | exact Le.const | refine Le.bind ?_ fun _ => ?_ | refine Le.cond ?_ ?_ | refine Le.elim (fun _ => ?_) fun _ => ?_ | exact Le.of rfl)) h
theorem zX.e (k : Nat) (x : Tup (sigTys zX.hd)) : fnK T0 (zX.env k) [⟨0,zX.L0 k⟩] zX.C Tryz.f147 1 38 zX.hd zX.os x = zX.f k x := by kernel_rfl
def zX.fn (k : Nat) : Kn P0 G0 := ⟨147,1,38,zX.hd,1,zX.os,fun x => zX.f k x,contract (T := T0) (fn := Tryz.f147) hm0 hT0 (by kernel_rfl) (by kernel_rfl) (L := [⟨0,zX.L0 k⟩]) (C := zX.C) (by kernel_rfl) (by decide) rfl (by kernel_rfl) (loops_fn zX.d ⟨zX.s0 k,trivial⟩) (zX.e k),none⟩
def yy.hd : Sig := [⟨false,0,(.imm (.list (.int .u32)))⟩]
def yy.os : List Sig := [[⟨false,0,(.own 6 false 111 (.int .u32))⟩]]
def yy.C : List CutAt := []
def yy.env (k : Nat) : List (Kn P0 G0) := [zX.fn k]
theorem yy.d : distN (loopIds (Tryz.f150.body.getD .skip) 0) = true := by kernel_rfl
def yy.b (c0 : LI → Option Int) (a0 : LI) : Option LI := (Option.bind (c0 a0) fun y2 => (bif (decide (((0 : Int) ≤ y2) ∧ ((y2 ≤ y2) ∧ (y2 ≤ ((68719476736 : Nat) : Int))))) then (some (copyL a0 (List.replicate (Int.toNat y2) (0 : Int)))) else none))
def yy.f (k : Nat) a0 := yy.b (zX.f k) a0
noncomputable def yy.V a0 := lim fun k => yy.f k a0
theorem yy.v a0 {y} (h : yy.b zX.V a0 = some y) : yy.V a0 = some y := Le.v (by unfold yy.f yy.b;repeat (first | with_reducible first | exact Le.const | refine Le.bind ?_ fun _ => ?_ | refine Le.cond ?_ ?_ | refine Le.elim (fun _ => ?_) fun _ => ?_ | exact Le.of rfl)) h
theorem yy.e (k : Nat) (x : Tup (sigTys yy.hd)) : fnK T0 (yy.env k) [] yy.C Tryz.f150 1 22 yy.hd yy.os x = yy.f k x := by kernel_rfl
def yy.fn (k : Nat) : Kn P0 G0 := ⟨150,1,22,yy.hd,1,yy.os,fun x => yy.f k x,contract (T := T0) (fn := Tryz.f150) hm0 hT0 (by kernel_rfl) (by kernel_rfl) (L := []) (C := yy.C) (by kernel_rfl) (by decide) rfl (by kernel_rfl) (loops_fn yy.d trivial) (yy.e k),none⟩
def yU.hd : Sig := [⟨false,0,(.imm (.int .u32))⟩]
def yU.os : List Sig := [[⟨false,0,(.imm (.int .i64))⟩]]
def yU.C : List CutAt := [⟨7,[(.normal,[⟨false,0,(.imm (.int .u32))⟩,⟨false,2,(.imm (.int .i64))⟩])]⟩,⟨4,[(.normal,[⟨false,0,(.imm (.int .u32))⟩,⟨false,2,(.imm (.int .i64))⟩])]⟩]
def yU.env : List (Kn P0 G0) := []
theorem yU.d : distN (loopIds (Tryz.f178.body.getD .skip) 0) = true := by kernel_rfl
def yU.f (a0 : Int) : Option Int := (Option.bind (bif (decide (a0 ≥ (65536 : Int))) then (some ((shrI .u32 a0 (16 : Int)),(16 : Int))) else (some (a0,(0 : Int)))) fun y1 => (Option.bind (bif (decide (y1.1 ≥ (256 : Int))) then (some ((shrI .u32 y1.1 (8 : Int)),(IntKind.wrap .i64 (y1.2 + (8 : Int))))) else (some (y1.1,y1.2))) fun y2 => (bif (decide (((0 : Int) ≤ (IntKind.wrap .u8 y2.1)) ∧ ((IntKind.wrap .u8 y2.1) < (((ByteArray.size (ByteArray.mk #[0,1,2,2,3,3,3,3,4,4,4,4,4,4,4,4,5,5,5,5,5,5,5,5,5,5,5,5,5,5,5,5,6,6,6,6,6,6,6,6,6,6,6,6,6,6,6,6,6,6,6,6,6,6,6,6,6,6,6,6,6,6,6,6,7,7,7,7,7,7,7,7,7,7,7,7,7,7,7,7,7,7,7,7,7,7,7,7,7,7,7,7,7,7,7,7,7,7,7,7,7,7,7,7,7,7,7,7,7,7,7,7,7,7,7,7,7,7,7,7,7,7,7,7,7,7,7,7,8,8,8,8,8,8,8,8,8,8,8,8,8,8,8,8,8,8,8,8,8,8,8,8,8,8,8,8,8,8,8,8,8,8,8,8,8,8,8,8,8,8,8,8,8,8,8,8,8,8,8,8,8,8,8,8,8,8,8,8,8,8,8,8,8,8,8,8,8,8,8,8,8,8,8,8,8,8,8,8,8,8,8,8,8,8,8,8,8,8,8,8,8,8,8,8,8,8,8,8,8,8,8,8,8,8,8,8,8,8,8,8,8,8,8,8,8,8,8,8,8,8,8,8,8,8,8,8])) : Nat) : Int)))) then (some (IntKind.wrap .i64 (y2.2 + (IntKind.wrap .i64 (bAt (ByteArray.mk #[0,1,2,2,3,3,3,3,4,4,4,4,4,4,4,4,5,5,5,5,5,5,5,5,5,5,5,5,5,5,5,5,6,6,6,6,6,6,6,6,6,6,6,6,6,6,6,6,6,6,6,6,6,6,6,6,6,6,6,6,6,6,6,6,7,7,7,7,7,7,7,7,7,7,7,7,7,7,7,7,7,7,7,7,7,7,7,7,7,7,7,7,7,7,7,7,7,7,7,7,7,7,7,7,7,7,7,7,7,7,7,7,7,7,7,7,7,7,7,7,7,7,7,7,7,7,7,7,8,8,8,8,8,8,8,8,8,8,8,8,8,8,8,8,8,8,8,8,8,8,8,8,8,8,8,8,8,8,8,8,8,8,8,8,8,8,8,8,8,8,8,8,8,8,8,8,8,8,8,8,8,8,8,8,8,8,8,8,8,8,8,8,8,8,8,8,8,8,8,8,8,8,8,8,8,8,8,8,8,8,8,8,8,8,8,8,8,8,8,8,8,8,8,8,8,8,8,8,8,8,8,8,8,8,8,8,8,8,8,8,8,8,8,8,8,8,8,8,8,8,8,8,8,8,8,8]) (IntKind.wrap .u8 y2.1)))))) else none)))
theorem yU.e (x : Tup (sigTys yU.hd)) : fnK T0 yU.env [] yU.C Tryz.f178 1 38 yU.hd yU.os x = yU.f x := by kernel_rfl
def yU.fn : Kn P0 G0 := ⟨178,1,38,yU.hd,1,yU.os,fun x => yU.f x,contract (T := T0) (fn := Tryz.f178) hm0 hT0 (by kernel_rfl) (by kernel_rfl) (L := []) (C := yU.C) (by kernel_rfl) (by decide) rfl (by kernel_rfl) (loops_fn yU.d trivial) (yU.e),none⟩
def yA.hd : Sig := [⟨false,0,(.imm (.int .u32))⟩]
def yA.os : List Sig := [[⟨false,0,(.imm (.int .i64))⟩]]
def yA.C : List CutAt := []
def yA.env : List (Kn P0 G0) := [yU.fn]
theorem yA.d : distN (loopIds (Tryz.f171.body.getD .skip) 0) = true := by kernel_rfl
def yA.f (a0 : Int) : Option Int := (Option.bind (yU.f a0) fun y1 => (some (IntKind.wrap .i64 ((32 : Int) - y1))))
theorem yA.e (x : Tup (sigTys yA.hd)) : fnK T0 yA.env [] yA.C Tryz.f171 1 12 yA.hd yA.os x = yA.f x := by kernel_rfl
def yA.fn : Kn P0 G0 := ⟨171,1,12,yA.hd,1,yA.os,fun x => yA.f x,contract (T := T0) (fn := Tryz.f171) hm0 hT0 (by kernel_rfl) (by kernel_rfl) (L := []) (C := yA.C) (by kernel_rfl) (by decide) rfl (by kernel_rfl) (loops_fn yA.d trivial) (yA.e),none⟩
def zC.hd : Sig := [⟨false,0,(.imm (.list (.int .u32)))⟩,⟨false,1,(.imm (.list (.int .u32)))⟩]
def zC.os : List Sig := [[⟨false,0,(.own 78 false 111 (.int .u32))⟩]]
def zC.h0 : Sig := [⟨false,1,(.own 14 false 111 (.int .u32))⟩,⟨false,5,(.own 20 false 111 (.int .u32))⟩,⟨false,6,(.imm (.int .i64))⟩,⟨false,7,(.imm (.int .u32))⟩,⟨false,8,(.own 31 false 111 (.int .u32))⟩,⟨false,9,(.imm (.int .u64))⟩,⟨false,21,(.own 12 false 111 (.int .u32))⟩,⟨false,22,(.imm (.int .i64))⟩,⟨false,23,(.imm (.int .i64))⟩,⟨false,38,(.imm (.int .i64))⟩,⟨false,39,(.imm (.int .i64))⟩]
def zC.o0 : Outs := [((.exit 2),[⟨false,1,(.own 14 false 111 (.int .u32))⟩,⟨false,5,(.own 20 false 111 (.int .u32))⟩,⟨false,6,(.imm (.int .i64))⟩,⟨false,8,(.own 31 false 111 (.int .u32))⟩,⟨false,21,(.own 12 false 111 (.int .u32))⟩,⟨false,22,(.imm (.int .i64))⟩,⟨false,23,(.imm (.int .i64))⟩])]
def zC.h1 : Sig := [⟨false,1,(.own 14 false 111 (.int .u32))⟩,⟨false,5,(.own 20 false 111 (.int .u32))⟩,⟨false,21,(.own 12 false 111 (.int .u32))⟩,⟨false,22,(.imm (.int .i64))⟩,⟨false,23,(.imm (.int .i64))⟩]
def zC.o1 : Outs := [((.exit 0),[⟨false,5,(.own 20 false 111 (.int .u32))⟩])]
def zC.C : List CutAt := [⟨14,[(.normal,[⟨false,1,(.own 14 false 111 (.int .u32))⟩,⟨false,5,(.own 20 false 111 (.int .u32))⟩,⟨false,6,(.imm (.int .i64))⟩,⟨false,7,(.imm (.int .u32))⟩,⟨false,8,(.own 31 false 111 (.int .u32))⟩,⟨false,9,(.imm (.int .u64))⟩,⟨false,10,(.imm (.int .i64))⟩,⟨false,21,(.own 12 false 111 (.int .u32))⟩,⟨false,22,(.imm (.int .i64))⟩,⟨false,23,(.imm (.int .i64))⟩,⟨false,38,(.imm (.int .i64))⟩,⟨false,39,(.imm (.int .i64))⟩])]⟩]
def zC.env (k : Nat) : List (Kn P0 G0) := [yy.fn k]
theorem zC.d : distN (loopIds (Tryz.f117.body.getD .skip) 0) = true := by kernel_rfl
def zC.b0 (c0 : LI → LI → Int → Int → LI → Int → LI → Int → Int → Int → Int → Option (LI × LI × Int × LI × LI × Int × Int)) (x0 : LI) (x1 : LI) (x2 : Int) (x3 : Int) (x4 : LI) (x5 : Int) (x6 : LI) (x7 : Int) (x8 : Int) (x9 : Int) (x10 : Int) : Option (LI × LI × Int × LI × LI × Int × Int) := (bif (decide (x10 < x9)) then (Option.bind (bif (decide (x10 < (((List.length x0) : Nat) : Int))) then (bif (decide (((0 : Int) ≤ x10) ∧ (x10 < (((List.length x0) : Nat) : Int)))) then (some (x0,(x1,(x2,(x3,(x4,((IntKind.wrap .u64 (x5 + (IntKind.wrap .u64 ((IntKind.wrap .u64 x3) * (IntKind.wrap .u64 (rdL (0 : Int) x0 x10)))))),(x10,(x6,(x7,(x8,(x9,x10)))))))))))) else none) else (some (x0,(x1,(x2,(x3,(x4,(x5,(x10,(x6,(x7,(x8,(x9,x10))))))))))))) fun y13 => (bif (decide (((0 : Int) ≤ y13.2.2.2.2.2.2.1) ∧ (y13.2.2.2.2.2.2.1 < (((List.length y13.2.2.2.2.1) : Nat) : Int)))) then (bif (decide (((0 : Int) ≤ y13.2.2.2.2.2.2.1) ∧ (y13.2.2.2.2.2.2.1 < (((List.length y13.2.2.2.2.1) : Nat) : Int)))) then (c0 y13.1 y13.2.1 y13.2.2.1 y13.2.2.2.1 (List.set y13.2.2.2.2.1 (Int.toNat y13.2.2.2.2.2.2.1) (IntKind.wrap .u32 (IntKind.wrap .u64 (y13.2.2.2.2.2.1 + (IntKind.wrap .u64 (rdL (0 : Int) y13.2.2.2.2.1 y13.2.2.2.2.2.2.1)))))) (shrI .u64 (IntKind.wrap .u64 (y13.2.2.2.2.2.1 + (IntKind.wrap .u64 (rdL (0 : Int) y13.2.2.2.2.1 y13.2.2.2.2.2.2.1)))) (32 : Int)) y13.2.2.2.2.2.2.2.1 y13.2.2.2.2.2.2.2.2.1 y13.2.2.2.2.2.2.2.2.2.1 y13.2.2.2.2.2.2.2.2.2.2.1 (IntKind.wrap .i64 (y13.2.2.2.2.2.2.2.2.2.2.2 + (1 : Int)))) else none) else none)) else (some (x0,(x1,(x2,(x4,(x6,(x7,x8))))))))
def zC.l0 : Nat → LI → LI → Int → Int → LI → Int → LI → Int → Int → Int → Int → Option (LI × LI × Int × LI × LI × Int × Int)
 | 0,_,_,_,_,_,_,_,_,_,_,_ => none
 | k + 1,x0,x1,x2,x3,x4,x5,x6,x7,x8,x9,x10 => zC.b0 (zC.l0 k) x0 x1 x2 x3 x4 x5 x6 x7 x8 x9 x10
noncomputable def zC.V0 x0 x1 x2 x3 x4 x5 x6 x7 x8 x9 x10 := lim fun k => zC.l0 k x0 x1 x2 x3 x4 x5 x6 x7 x8 x9 x10
theorem zC.v0 x0 x1 x2 x3 x4 x5 x6 x7 x8 x9 x10 {y} (h : zC.b0 zC.V0 x0 x1 x2 x3 x4 x5 x6 x7 x8 x9 x10 = some y) : zC.V0 x0 x1 x2 x3 x4 x5 x6 x7 x8 x9 x10 = some y := Le.v (.succ (by unfold zC.l0 zC.b0;repeat (first | with_reducible first | exact Le.const | refine Le.bind ?_ fun _ => ?_ | refine Le.cond ?_ ?_ | refine Le.elim (fun _ => ?_) fun _ => ?_ | exact Le.of rfl))) h
def zC.L0 (k : Nat) : LFn := ⟨zC.h0,zC.o0,fun x => zC.l0 k x.1 x.2.1 x.2.2.1 x.2.2.2.1 x.2.2.2.2.1 x.2.2.2.2.2.1 x.2.2.2.2.2.2.1 x.2.2.2.2.2.2.2.1 x.2.2.2.2.2.2.2.2.1 x.2.2.2.2.2.2.2.2.2.1 x.2.2.2.2.2.2.2.2.2.2⟩
theorem zC.r0 (k : Nat) (x : Tup (sigTys zC.h0)) : roundK T0 (zC.env k) 79 158 [] zC.C (loopOf Tryz.f117 2) 2 zC.h0 zC.o0 (zC.L0 k).f x = (zC.L0 (k + 1)).f x := by kernel_rfl
theorem zC.s0 (k : Nat) : LoopSound P0 G0 79 158 (sigPins zC.hd) (zC.L0 k) (loopOf Tryz.f117 2) := loop_rounds (T := T0) hm0 hT0 (env := fun k => (zC.env k)) (nh := 158) (pn := sigPins zC.hd) (L := fun k => []) (C := zC.C) (by kernel_rfl) (hd := zC.h0) (os := zC.o0) (by kernel_rfl) (by kernel_rfl) (by kernel_rfl) (g := fun k => (zC.L0 k).f) (fun k => loops_in zC.d trivial) (fun _ => rfl) (fun k x => zC.r0 k x) k
def zC.b1 (c0 : LI → LI → Int → Int → LI → Int → LI → Int → Int → Int → Int → Option (LI × LI × Int × LI × LI × Int × Int)) (c1 : LI → LI → LI → Int → Int → Option LI) (x0 : LI) (x1 : LI) (x2 : LI) (x3 : Int) (x4 : Int) : Option LI := (bif (decide (x4 < x3)) then (bif (decide (((0 : Int) ≤ x4) ∧ (x4 < (((List.length x2) : Nat) : Int)))) then (bif (decide (((0 : Int) ≤ (IntKind.wrap .i64 ((((List.length x0) : Nat) : Int) + (1 : Int)))) ∧ (((IntKind.wrap .i64 ((((List.length x0) : Nat) : Int) + (1 : Int))) ≤ (IntKind.wrap .i64 ((((List.length x0) : Nat) : Int) + (1 : Int)))) ∧ ((IntKind.wrap .i64 ((((List.length x0) : Nat) : Int) + (1 : Int))) ≤ ((68719476736 : Nat) : Int))))) then (bif (decide (((0 : Int) ≤ x4) ∧ (x4 ≤ (((List.length x1) : Nat) : Int)))) then (Option.bind (c0 x0 (x1,(x4,((rdL (0 : Int) x2 x4),((copyL (List.drop (Int.toNat x4) (List.take ((Int.toNat x4) + (Int.toNat ((((List.length x1) : Nat) : Int) - x4))) x1)) (List.replicate (Int.toNat (IntKind.wrap .i64 ((((List.length x0) : Nat) : Int) + (1 : Int)))) (0 : Int))),((0 : Int),(x2,(x3,(x4,((((List.length (copyL (List.drop (Int.toNat x4) (List.take ((Int.toNat x4) + (Int.toNat ((((List.length x1) : Nat) : Int) - x4))) x1)) (List.replicate (Int.toNat (IntKind.wrap .i64 ((((List.length x0) : Nat) : Int) + (1 : Int)))) (0 : Int)))) : Nat) : Int),(0 : Int)))))))))).1 (x1,(x4,((rdL (0 : Int) x2 x4),((copyL (List.drop (Int.toNat x4) (List.take ((Int.toNat x4) + (Int.toNat ((((List.length x1) : Nat) : Int) - x4))) x1)) (List.replicate (Int.toNat (IntKind.wrap .i64 ((((List.length x0) : Nat) : Int) + (1 : Int)))) (0 : Int))),((0 : Int),(x2,(x3,(x4,((((List.length (copyL (List.drop (Int.toNat x4) (List.take ((Int.toNat x4) + (Int.toNat ((((List.length x1) : Nat) : Int) - x4))) x1)) (List.replicate (Int.toNat (IntKind.wrap .i64 ((((List.length x0) : Nat) : Int) + (1 : Int)))) (0 : Int)))) : Nat) : Int),(0 : Int)))))))))).2.1 (x1,(x4,((rdL (0 : Int) x2 x4),((copyL (List.drop (Int.toNat x4) (List.take ((Int.toNat x4) + (Int.toNat ((((List.length x1) : Nat) : Int) - x4))) x1)) (List.replicate (Int.toNat (IntKind.wrap .i64 ((((List.length x0) : Nat) : Int) + (1 : Int)))) (0 : Int))),((0 : Int),(x2,(x3,(x4,((((List.length (copyL (List.drop (Int.toNat x4) (List.take ((Int.toNat x4) + (Int.toNat ((((List.length x1) : Nat) : Int) - x4))) x1)) (List.replicate (Int.toNat (IntKind.wrap .i64 ((((List.length x0) : Nat) : Int) + (1 : Int)))) (0 : Int)))) : Nat) : Int),(0 : Int)))))))))).2.2.1 (x1,(x4,((rdL (0 : Int) x2 x4),((copyL (List.drop (Int.toNat x4) (List.take ((Int.toNat x4) + (Int.toNat ((((List.length x1) : Nat) : Int) - x4))) x1)) (List.replicate (Int.toNat (IntKind.wrap .i64 ((((List.length x0) : Nat) : Int) + (1 : Int)))) (0 : Int))),((0 : Int),(x2,(x3,(x4,((((List.length (copyL (List.drop (Int.toNat x4) (List.take ((Int.toNat x4) + (Int.toNat ((((List.length x1) : Nat) : Int) - x4))) x1)) (List.replicate (Int.toNat (IntKind.wrap .i64 ((((List.length x0) : Nat) : Int) + (1 : Int)))) (0 : Int)))) : Nat) : Int),(0 : Int)))))))))).2.2.2.1 (x1,(x4,((rdL (0 : Int) x2 x4),((copyL (List.drop (Int.toNat x4) (List.take ((Int.toNat x4) + (Int.toNat ((((List.length x1) : Nat) : Int) - x4))) x1)) (List.replicate (Int.toNat (IntKind.wrap .i64 ((((List.length x0) : Nat) : Int) + (1 : Int)))) (0 : Int))),((0 : Int),(x2,(x3,(x4,((((List.length (copyL (List.drop (Int.toNat x4) (List.take ((Int.toNat x4) + (Int.toNat ((((List.length x1) : Nat) : Int) - x4))) x1)) (List.replicate (Int.toNat (IntKind.wrap .i64 ((((List.length x0) : Nat) : Int) + (1 : Int)))) (0 : Int)))) : Nat) : Int),(0 : Int)))))))))).2.2.2.2.1 (x1,(x4,((rdL (0 : Int) x2 x4),((copyL (List.drop (Int.toNat x4) (List.take ((Int.toNat x4) + (Int.toNat ((((List.length x1) : Nat) : Int) - x4))) x1)) (List.replicate (Int.toNat (IntKind.wrap .i64 ((((List.length x0) : Nat) : Int) + (1 : Int)))) (0 : Int))),((0 : Int),(x2,(x3,(x4,((((List.length (copyL (List.drop (Int.toNat x4) (List.take ((Int.toNat x4) + (Int.toNat ((((List.length x1) : Nat) : Int) - x4))) x1)) (List.replicate (Int.toNat (IntKind.wrap .i64 ((((List.length x0) : Nat) : Int) + (1 : Int)))) (0 : Int)))) : Nat) : Int),(0 : Int)))))))))).2.2.2.2.2.1 (x1,(x4,((rdL (0 : Int) x2 x4),((copyL (List.drop (Int.toNat x4) (List.take ((Int.toNat x4) + (Int.toNat ((((List.length x1) : Nat) : Int) - x4))) x1)) (List.replicate (Int.toNat (IntKind.wrap .i64 ((((List.length x0) : Nat) : Int) + (1 : Int)))) (0 : Int))),((0 : Int),(x2,(x3,(x4,((((List.length (copyL (List.drop (Int.toNat x4) (List.take ((Int.toNat x4) + (Int.toNat ((((List.length x1) : Nat) : Int) - x4))) x1)) (List.replicate (Int.toNat (IntKind.wrap .i64 ((((List.length x0) : Nat) : Int) + (1 : Int)))) (0 : Int)))) : Nat) : Int),(0 : Int)))))))))).2.2.2.2.2.2.1 (x1,(x4,((rdL (0 : Int) x2 x4),((copyL (List.drop (Int.toNat x4) (List.take ((Int.toNat x4) + (Int.toNat ((((List.length x1) : Nat) : Int) - x4))) x1)) (List.replicate (Int.toNat (IntKind.wrap .i64 ((((List.length x0) : Nat) : Int) + (1 : Int)))) (0 : Int))),((0 : Int),(x2,(x3,(x4,((((List.length (copyL (List.drop (Int.toNat x4) (List.take ((Int.toNat x4) + (Int.toNat ((((List.length x1) : Nat) : Int) - x4))) x1)) (List.replicate (Int.toNat (IntKind.wrap .i64 ((((List.length x0) : Nat) : Int) + (1 : Int)))) (0 : Int)))) : Nat) : Int),(0 : Int)))))))))).2.2.2.2.2.2.2.1 (x1,(x4,((rdL (0 : Int) x2 x4),((copyL (List.drop (Int.toNat x4) (List.take ((Int.toNat x4) + (Int.toNat ((((List.length x1) : Nat) : Int) - x4))) x1)) (List.replicate (Int.toNat (IntKind.wrap .i64 ((((List.length x0) : Nat) : Int) + (1 : Int)))) (0 : Int))),((0 : Int),(x2,(x3,(x4,((((List.length (copyL (List.drop (Int.toNat x4) (List.take ((Int.toNat x4) + (Int.toNat ((((List.length x1) : Nat) : Int) - x4))) x1)) (List.replicate (Int.toNat (IntKind.wrap .i64 ((((List.length x0) : Nat) : Int) + (1 : Int)))) (0 : Int)))) : Nat) : Int),(0 : Int)))))))))).2.2.2.2.2.2.2.2.1 (x1,(x4,((rdL (0 : Int) x2 x4),((copyL (List.drop (Int.toNat x4) (List.take ((Int.toNat x4) + (Int.toNat ((((List.length x1) : Nat) : Int) - x4))) x1)) (List.replicate (Int.toNat (IntKind.wrap .i64 ((((List.length x0) : Nat) : Int) + (1 : Int)))) (0 : Int))),((0 : Int),(x2,(x3,(x4,((((List.length (copyL (List.drop (Int.toNat x4) (List.take ((Int.toNat x4) + (Int.toNat ((((List.length x1) : Nat) : Int) - x4))) x1)) (List.replicate (Int.toNat (IntKind.wrap .i64 ((((List.length x0) : Nat) : Int) + (1 : Int)))) (0 : Int)))) : Nat) : Int),(0 : Int)))))))))).2.2.2.2.2.2.2.2.2) fun y7 => (bif (decide (((0 : Int) ≤ y7.2.2.1) ∧ (y7.2.2.1 ≤ (((List.length y7.2.1) : Nat) : Int)))) then (c1 y7.1 (copyAt (Int.toNat y7.2.2.1) (Int.toNat ((((List.length y7.2.1) : Nat) : Int) - y7.2.2.1)) y7.2.2.2.1 y7.2.1) y7.2.2.2.2.1 y7.2.2.2.2.2.1 (IntKind.wrap .i64 (y7.2.2.2.2.2.2 + (1 : Int)))) else none)) else none) else none) else none) else (some x1))
def zC.l1 : Nat → LI → LI → LI → Int → Int → Option LI
 | 0,_,_,_,_,_ => none
 | k + 1,x0,x1,x2,x3,x4 => zC.b1 (zC.l0 k) (zC.l1 k) x0 x1 x2 x3 x4
noncomputable def zC.V1 x0 x1 x2 x3 x4 := lim fun k => zC.l1 k x0 x1 x2 x3 x4
theorem zC.v1 x0 x1 x2 x3 x4 {y} (h : zC.b1 zC.V0 zC.V1 x0 x1 x2 x3 x4 = some y) : zC.V1 x0 x1 x2 x3 x4 = some y := Le.v (.succ (by unfold zC.l1 zC.b1;repeat (first | with_reducible first | exact Le.const | refine Le.bind ?_ fun _ => ?_ | refine Le.cond ?_ ?_ | refine Le.elim (fun _ => ?_) fun _ => ?_ | exact Le.of rfl))) h
def zC.L1 (k : Nat) : LFn := ⟨zC.h1,zC.o1,fun x => zC.l1 k x.1 x.2.1 x.2.2.1 x.2.2.2.1 x.2.2.2.2⟩
theorem zC.r1 (k : Nat) (x : Tup (sigTys zC.h1)) : roundK T0 (zC.env k) 79 158 [⟨2,zC.L0 k⟩] zC.C (loopOf Tryz.f117 0) 0 zC.h1 zC.o1 (zC.L1 k).f x = (zC.L1 (k + 1)).f x := by kernel_rfl
theorem zC.s1 (k : Nat) : LoopSound P0 G0 79 158 (sigPins zC.hd) (zC.L1 k) (loopOf Tryz.f117 0) := loop_rounds (T := T0) hm0 hT0 (env := fun k => (zC.env k)) (nh := 158) (pn := sigPins zC.hd) (L := fun k => [⟨2,zC.L0 k⟩]) (C := zC.C) (by kernel_rfl) (hd := zC.h1) (os := zC.o1) (by kernel_rfl) (by kernel_rfl) (by kernel_rfl) (g := fun k => (zC.L1 k).f) (fun k => loops_in zC.d ⟨zC.s0 k,trivial⟩) (fun _ => rfl) (fun k x => zC.r1 k x) k
def zC.b (c0 : LI → Option LI) (c1 : LI → LI → LI → Int → Int → Option LI) (a0 : LI) (a1 : LI) : Option LI := (Option.bind (c0 a0) fun y3 => (Option.bind (c0 a1) fun y4 => (bif (decide (((0 : Int) ≤ (IntKind.wrap .i64 ((((List.length y3) : Nat) : Int) + (((List.length y4) : Nat) : Int)))) ∧ (((IntKind.wrap .i64 ((((List.length y3) : Nat) : Int) + (((List.length y4) : Nat) : Int))) ≤ (IntKind.wrap .i64 ((((List.length y3) : Nat) : Int) + (((List.length y4) : Nat) : Int)))) ∧ ((IntKind.wrap .i64 ((((List.length y3) : Nat) : Int) + (((List.length y4) : Nat) : Int))) ≤ ((68719476736 : Nat) : Int))))) then (Option.bind (c1 y4 ((List.replicate (Int.toNat (IntKind.wrap .i64 ((((List.length y3) : Nat) : Int) + (((List.length y4) : Nat) : Int)))) (0 : Int)),(y3,((((List.length y3) : Nat) : Int),(0 : Int)))).1 ((List.replicate (Int.toNat (IntKind.wrap .i64 ((((List.length y3) : Nat) : Int) + (((List.length y4) : Nat) : Int)))) (0 : Int)),(y3,((((List.length y3) : Nat) : Int),(0 : Int)))).2.1 ((List.replicate (Int.toNat (IntKind.wrap .i64 ((((List.length y3) : Nat) : Int) + (((List.length y4) : Nat) : Int)))) (0 : Int)),(y3,((((List.length y3) : Nat) : Int),(0 : Int)))).2.2.1 ((List.replicate (Int.toNat (IntKind.wrap .i64 ((((List.length y3) : Nat) : Int) + (((List.length y4) : Nat) : Int)))) (0 : Int)),(y3,((((List.length y3) : Nat) : Int),(0 : Int)))).2.2.2) fun y5 => (Option.bind (c0 y5) fun y6 => (some y6))) else none)))
def zC.f (k : Nat) a0 a1 := zC.b (yy.f k) (zC.l1 k) a0 a1
noncomputable def zC.V a0 a1 := lim fun k => zC.f k a0 a1
theorem zC.v a0 a1 {y} (h : zC.b yy.V zC.V1 a0 a1 = some y) : zC.V a0 a1 = some y := Le.v (by unfold zC.f zC.b;repeat (first | with_reducible first | exact Le.const | refine Le.bind ?_ fun _ => ?_ | refine Le.cond ?_ ?_ | refine Le.elim (fun _ => ?_) fun _ => ?_ | exact Le.of rfl)) h
theorem zC.e (k : Nat) (x : Tup (sigTys zC.hd)) : fnK T0 (zC.env k) [⟨2,zC.L0 k⟩,⟨0,zC.L1 k⟩] zC.C Tryz.f117 2 158 zC.hd zC.os x = zC.f k x.1 x.2 := by kernel_rfl
def zC.fn (k : Nat) : Kn P0 G0 := ⟨117,2,158,zC.hd,1,zC.os,fun x => zC.f k x.1 x.2,contract (T := T0) (fn := Tryz.f117) hm0 hT0 (by kernel_rfl) (by kernel_rfl) (L := [⟨2,zC.L0 k⟩,⟨0,zC.L1 k⟩]) (C := zC.C) (by kernel_rfl) (by decide) rfl (by kernel_rfl) (loops_fn zC.d ⟨zC.s0 k,zC.s1 k,trivial⟩) (zC.e k),none⟩
def xc.hd : Sig := [⟨false,0,(.imm (.list (.int .u32)))⟩,⟨false,1,(.imm (.int .u32))⟩]
def xc.os : List Sig := [[⟨false,0,(.own 8 false 111 (.int .u32))⟩]]
def xc.C : List CutAt := []
def xc.env (k : Nat) : List (Kn P0 G0) := [zC.fn k]
theorem xc.d : distN (loopIds (Tryz.f187.body.getD .skip) 0) = true := by kernel_rfl
def xc.b (c0 : LI → LI → Option LI) (a0 : LI) (a1 : Int) : Option LI := (Option.bind (c0 a0 (a1 :: ([] : LI))) fun y3 => (some y3))
def xc.f (k : Nat) a0 a1 := xc.b (zC.f k) a0 a1
noncomputable def xc.V a0 a1 := lim fun k => xc.f k a0 a1
theorem xc.v a0 a1 {y} (h : xc.b zC.V a0 a1 = some y) : xc.V a0 a1 = some y := Le.v (by unfold xc.f xc.b;repeat (first | with_reducible first | exact Le.const | refine Le.bind ?_ fun _ => ?_ | refine Le.cond ?_ ?_ | refine Le.elim (fun _ => ?_) fun _ => ?_ | exact Le.of rfl)) h
theorem xc.e (k : Nat) (x : Tup (sigTys xc.hd)) : fnK T0 (xc.env k) [] xc.C Tryz.f187 2 18 xc.hd xc.os x = xc.f k x.1 x.2 := by kernel_rfl
def xc.fn (k : Nat) : Kn P0 G0 := ⟨187,2,18,xc.hd,1,xc.os,fun x => xc.f k x.1 x.2,contract (T := T0) (fn := Tryz.f187) hm0 hT0 (by kernel_rfl) (by kernel_rfl) (L := []) (C := xc.C) (by kernel_rfl) (by decide) rfl (by kernel_rfl) (loops_fn xc.d trivial) (xc.e k),none⟩
def xV.hd : Sig := [⟨false,0,(.imm (.list (.int .u32)))⟩,⟨false,1,(.imm (.int .i64))⟩]
def xV.os : List Sig := [[⟨false,0,(.own 23 false 111 (.int .u32))⟩]]
def xV.C : List CutAt := []
def xV.env (k : Nat) : List (Kn P0 G0) := [xc.fn k]
theorem xV.d : distN (loopIds (Tryz.f185.body.getD .skip) 0) = true := by kernel_rfl
def xV.b (c0 : LI → Int → Option LI) (a0 : LI) (a1 : Int) : Option LI := (bif (decide (((0 : Int) ≤ (IntKind.wrap .i64 ((IntKind.wrap .i64 ((IntKind.wrap .i64 (Int.tdiv a1 (32 : Int))) + (((List.length a0) : Nat) : Int))) + (1 : Int)))) ∧ (((IntKind.wrap .i64 ((IntKind.wrap .i64 ((IntKind.wrap .i64 (Int.tdiv a1 (32 : Int))) + (((List.length a0) : Nat) : Int))) + (1 : Int))) ≤ (IntKind.wrap .i64 ((IntKind.wrap .i64 ((IntKind.wrap .i64 (Int.tdiv a1 (32 : Int))) + (((List.length a0) : Nat) : Int))) + (1 : Int)))) ∧ ((IntKind.wrap .i64 ((IntKind.wrap .i64 ((IntKind.wrap .i64 (Int.tdiv a1 (32 : Int))) + (((List.length a0) : Nat) : Int))) + (1 : Int))) ≤ ((68719476736 : Nat) : Int))))) then (bif (decide (((0 : Int) ≤ (IntKind.wrap .i64 (Int.tdiv a1 (32 : Int)))) ∧ ((IntKind.wrap .i64 (Int.tdiv a1 (32 : Int))) ≤ (((List.length (List.replicate (Int.toNat (IntKind.wrap .i64 ((IntKind.wrap .i64 ((IntKind.wrap .i64 (Int.tdiv a1 (32 : Int))) + (((List.length a0) : Nat) : Int))) + (1 : Int)))) (0 : Int))) : Nat) : Int)))) then (bif (decide ((Int.tmod a1 (32 : Int)) < (0 : Int))) then none else (Option.bind (c0 (copyAt (Int.toNat (IntKind.wrap .i64 (Int.tdiv a1 (32 : Int)))) (Int.toNat ((((List.length (List.replicate (Int.toNat (IntKind.wrap .i64 ((IntKind.wrap .i64 ((IntKind.wrap .i64 (Int.tdiv a1 (32 : Int))) + (((List.length a0) : Nat) : Int))) + (1 : Int)))) (0 : Int))) : Nat) : Int) - (IntKind.wrap .i64 (Int.tdiv a1 (32 : Int))))) a0 (List.replicate (Int.toNat (IntKind.wrap .i64 ((IntKind.wrap .i64 ((IntKind.wrap .i64 (Int.tdiv a1 (32 : Int))) + (((List.length a0) : Nat) : Int))) + (1 : Int)))) (0 : Int))) (shlI .u32 (1 : Int) (Int.tmod a1 (32 : Int)))) fun y3 => (some y3))) else none) else none)
def xV.f (k : Nat) a0 a1 := xV.b (xc.f k) a0 a1
noncomputable def xV.V a0 a1 := lim fun k => xV.f k a0 a1
theorem xV.v a0 a1 {y} (h : xV.b xc.V a0 a1 = some y) : xV.V a0 a1 = some y := Le.v (by unfold xV.f xV.b;repeat (first | with_reducible first | exact Le.const | refine Le.bind ?_ fun _ => ?_ | refine Le.cond ?_ ?_ | refine Le.elim (fun _ => ?_) fun _ => ?_ | exact Le.of rfl)) h
theorem xV.e (k : Nat) (x : Tup (sigTys xV.hd)) : fnK T0 (xV.env k) [] xV.C Tryz.f185 2 48 xV.hd xV.os x = xV.f k x.1 x.2 := by kernel_rfl
def xV.fn (k : Nat) : Kn P0 G0 := ⟨185,2,48,xV.hd,1,xV.os,fun x => xV.f k x.1 x.2,contract (T := T0) (fn := Tryz.f185) hm0 hT0 (by kernel_rfl) (by kernel_rfl) (L := []) (C := xV.C) (by kernel_rfl) (by decide) rfl (by kernel_rfl) (loops_fn xV.d trivial) (xV.e k),none⟩
def yi.hd : Sig := [⟨false,0,(.imm (.list (.int .u32)))⟩,⟨false,1,(.imm (.int .i64))⟩]
def yi.os : List Sig := [[⟨false,0,(.own 13 false 111 (.int .u32))⟩]]
def yi.h0 : Sig := [⟨false,1,(.imm (.int .i64))⟩,⟨false,5,(.own 18 false 111 (.int .u32))⟩,⟨false,20,(.imm (.int .i64))⟩,⟨false,21,(.imm (.int .i64))⟩]
def yi.o0 : Outs := [((.exit 0),[⟨false,5,(.own 18 false 111 (.int .u32))⟩])]
def yi.C : List CutAt := [⟨10,[(.normal,[⟨false,1,(.imm (.int .i64))⟩,⟨false,5,(.own 18 false 111 (.int .u32))⟩,⟨false,6,(.imm (.int .i64))⟩,⟨false,7,(.imm (.int .u64))⟩,⟨false,20,(.imm (.int .i64))⟩,⟨false,21,(.imm (.int .i64))⟩])]⟩]
def yi.env (k : Nat) : List (Kn P0 G0) := [yy.fn k]
theorem yi.d : distN (loopIds (Tryz.f186.body.getD .skip) 0) = true := by kernel_rfl
def yi.b0 (c0 : Int → LI → Int → Int → Option LI) (x0 : Int) (x1 : LI) (x2 : Int) (x3 : Int) : Option LI := (bif (decide (x3 < x2)) then (Option.bind (bif (decide ((IntKind.wrap .i64 (x3 + (1 : Int))) < (((List.length x1) : Nat) : Int))) then (bif (decide (((0 : Int) ≤ (IntKind.wrap .i64 (x3 + (1 : Int)))) ∧ ((IntKind.wrap .i64 (x3 + (1 : Int))) < (((List.length x1) : Nat) : Int)))) then (some (x0,(x1,(x3,((IntKind.wrap .u64 (rdL (0 : Int) x1 (IntKind.wrap .i64 (x3 + (1 : Int))))),(x2,x3)))))) else none) else (some (x0,(x1,(x3,((0 : Int),(x2,x3))))))) fun y6 => (bif (decide (((0 : Int) ≤ y6.2.2.1) ∧ (y6.2.2.1 < (((List.length y6.2.1) : Nat) : Int)))) then (bif (decide ((Int.tmod y6.1 (32 : Int)) < (0 : Int))) then none else (bif (decide (((0 : Int) ≤ y6.2.2.1) ∧ (y6.2.2.1 < (((List.length y6.2.1) : Nat) : Int)))) then (c0 y6.1 (List.set y6.2.1 (Int.toNat y6.2.2.1) (IntKind.wrap .u32 (shrI .u64 (bor .u64 (shlI .u64 y6.2.2.2.1 (32 : Int)) (IntKind.wrap .u64 (rdL (0 : Int) y6.2.1 y6.2.2.1))) (Int.tmod y6.1 (32 : Int))))) y6.2.2.2.2.1 (IntKind.wrap .i64 (y6.2.2.2.2.2 + (1 : Int)))) else none)) else none)) else (some x1))
def yi.l0 : Nat → Int → LI → Int → Int → Option LI
 | 0,_,_,_,_ => none
 | k + 1,x0,x1,x2,x3 => yi.b0 (yi.l0 k) x0 x1 x2 x3
noncomputable def yi.V0 x0 x1 x2 x3 := lim fun k => yi.l0 k x0 x1 x2 x3
theorem yi.v0 x0 x1 x2 x3 {y} (h : yi.b0 yi.V0 x0 x1 x2 x3 = some y) : yi.V0 x0 x1 x2 x3 = some y := Le.v (.succ (by unfold yi.l0 yi.b0;repeat (first | with_reducible first | exact Le.const | refine Le.bind ?_ fun _ => ?_ | refine Le.cond ?_ ?_ | refine Le.elim (fun _ => ?_) fun _ => ?_ | exact Le.of rfl))) h
def yi.L0 (k : Nat) : LFn := ⟨yi.h0,yi.o0,fun x => yi.l0 k x.1 x.2.1 x.2.2.1 x.2.2.2⟩
theorem yi.r0 (k : Nat) (x : Tup (sigTys yi.h0)) : roundK T0 (yi.env k) 53 106 [] yi.C (loopOf Tryz.f186 0) 0 yi.h0 yi.o0 (yi.L0 k).f x = (yi.L0 (k + 1)).f x := by kernel_rfl
theorem yi.s0 (k : Nat) : LoopSound P0 G0 53 106 (sigPins yi.hd) (yi.L0 k) (loopOf Tryz.f186 0) := loop_rounds (T := T0) hm0 hT0 (env := fun k => (yi.env k)) (nh := 106) (pn := sigPins yi.hd) (L := fun k => []) (C := yi.C) (by kernel_rfl) (hd := yi.h0) (os := yi.o0) (by kernel_rfl) (by kernel_rfl) (by kernel_rfl) (g := fun k => (yi.L0 k).f) (fun k => loops_in yi.d trivial) (fun _ => rfl) (fun k x => yi.r0 k x) k
def yi.b (c0 : LI → Option LI) (c1 : Int → LI → Int → Int → Option LI) (a0 : LI) (a1 : Int) : Option LI := (bif (decide ((IntKind.wrap .i64 (Int.tdiv a1 (32 : Int))) ≥ (((List.length a0) : Nat) : Int))) then (some ([] : LI)) else (bif (decide (((0 : Int) ≤ (IntKind.wrap .i64 (Int.tdiv a1 (32 : Int)))) ∧ ((IntKind.wrap .i64 (Int.tdiv a1 (32 : Int))) ≤ (((List.length a0) : Nat) : Int)))) then (Option.bind (c0 (List.drop (Int.toNat (IntKind.wrap .i64 (Int.tdiv a1 (32 : Int)))) a0)) fun y3 => (Option.bind (c1 a1 (y3,((((List.length y3) : Nat) : Int),(0 : Int))).1 (y3,((((List.length y3) : Nat) : Int),(0 : Int))).2.1 (y3,((((List.length y3) : Nat) : Int),(0 : Int))).2.2) fun y4 => (Option.bind (c0 y4) fun y5 => (some y5)))) else none))
def yi.f (k : Nat) a0 a1 := yi.b (yy.f k) (yi.l0 k) a0 a1
noncomputable def yi.V a0 a1 := lim fun k => yi.f k a0 a1
theorem yi.v a0 a1 {y} (h : yi.b yy.V yi.V0 a0 a1 = some y) : yi.V a0 a1 = some y := Le.v (by unfold yi.f yi.b;repeat (first | with_reducible first | exact Le.const | refine Le.bind ?_ fun _ => ?_ | refine Le.cond ?_ ?_ | refine Le.elim (fun _ => ?_) fun _ => ?_ | exact Le.of rfl)) h
theorem yi.e (k : Nat) (x : Tup (sigTys yi.hd)) : fnK T0 (yi.env k) [⟨0,yi.L0 k⟩] yi.C Tryz.f186 2 106 yi.hd yi.os x = yi.f k x.1 x.2 := by kernel_rfl
def yi.fn (k : Nat) : Kn P0 G0 := ⟨186,2,106,yi.hd,1,yi.os,fun x => yi.f k x.1 x.2,contract (T := T0) (fn := Tryz.f186) hm0 hT0 (by kernel_rfl) (by kernel_rfl) (L := [⟨0,yi.L0 k⟩]) (C := yi.C) (by kernel_rfl) (by decide) rfl (by kernel_rfl) (loops_fn yi.d ⟨yi.s0 k,trivial⟩) (yi.e k),none⟩
def xx.hd : Sig := [⟨false,0,(.imm (.list (.int .u32)))⟩,⟨false,1,(.imm (.int .i64))⟩]
def xx.os : List Sig := [[⟨false,0,(.own 11 false 111 (.int .u32))⟩]]
def xx.C : List CutAt := []
def xx.env (k : Nat) : List (Kn P0 G0) := [xV.fn k,yi.fn k]
theorem xx.d : distN (loopIds (Tryz.f172.body.getD .skip) 0) = true := by kernel_rfl
def xx.b (c0 : LI → Int → Option LI) (c1 : LI → Int → Option LI) (a0 : LI) (a1 : Int) : Option LI := (bif (decide (a1 ≥ (0 : Int))) then (Option.bind (c0 a0 (mnI a1 (8192 : Int))) fun y3 => (some y3)) else (bif (decide (a1 < (-(8192 : Int)))) then (some ([] : LI)) else (Option.bind (c1 a0 (IntKind.wrap .i64 ((0 : Int) - a1))) fun y3 => (some y3))))
def xx.f (k : Nat) a0 a1 := xx.b (xV.f k) (yi.f k) a0 a1
noncomputable def xx.V a0 a1 := lim fun k => xx.f k a0 a1
theorem xx.v a0 a1 {y} (h : xx.b xV.V yi.V a0 a1 = some y) : xx.V a0 a1 = some y := Le.v (by unfold xx.f xx.b;repeat (first | with_reducible first | exact Le.const | refine Le.bind ?_ fun _ => ?_ | refine Le.cond ?_ ?_ | refine Le.elim (fun _ => ?_) fun _ => ?_ | exact Le.of rfl)) h
theorem xx.e (k : Nat) (x : Tup (sigTys xx.hd)) : fnK T0 (xx.env k) [] xx.C Tryz.f172 2 40 xx.hd xx.os x = xx.f k x.1 x.2 := by kernel_rfl
def xx.fn (k : Nat) : Kn P0 G0 := ⟨172,2,40,xx.hd,1,xx.os,fun x => xx.f k x.1 x.2,contract (T := T0) (fn := Tryz.f172) hm0 hT0 (by kernel_rfl) (by kernel_rfl) (L := []) (C := xx.C) (by kernel_rfl) (by decide) rfl (by kernel_rfl) (loops_fn xx.d trivial) (xx.e k),none⟩
def xX.hd : Sig := [⟨false,0,(.imm (.list (.int .u32)))⟩,⟨false,1,(.imm (.list (.int .u32)))⟩]
def xX.os : List Sig := [[⟨false,0,(.imm (.int .u32))⟩]]
def xX.C : List CutAt := []
def xX.env : List (Kn P0 G0) := []
theorem xX.d : distN (loopIds (Tryz.f174.body.getD .skip) 0) = true := by kernel_rfl
def xX.f (a0 : LI) (a1 : LI) : Option Int := (bif (decide (((0 : Int) ≤ (((List.length a1) : Nat) : Int)) ∧ ((((List.length a1) : Nat) : Int) < (((List.length a0) : Nat) : Int)))) then (bif (decide (((0 : Int) ≤ (IntKind.wrap .i64 ((((List.length a1) : Nat) : Int) - (1 : Int)))) ∧ ((IntKind.wrap .i64 ((((List.length a1) : Nat) : Int) - (1 : Int))) < (((List.length a0) : Nat) : Int)))) then (bif (decide (((0 : Int) ≤ (IntKind.wrap .i64 ((((List.length a1) : Nat) : Int) - (1 : Int)))) ∧ ((IntKind.wrap .i64 ((((List.length a1) : Nat) : Int) - (1 : Int))) < (((List.length a1) : Nat) : Int)))) then (bif (decide ((IntKind.wrap .u64 (rdL (0 : Int) a1 (IntKind.wrap .i64 ((((List.length a1) : Nat) : Int) - (1 : Int))))) = (0 : Int))) then none else (some (IntKind.wrap .u32 (mnI (IntKind.wrap .u64 (Int.tdiv (bor .u64 (shlI .u64 (IntKind.wrap .u64 (rdL (0 : Int) a0 (((List.length a1) : Nat) : Int))) (32 : Int)) (IntKind.wrap .u64 (rdL (0 : Int) a0 (IntKind.wrap .i64 ((((List.length a1) : Nat) : Int) - (1 : Int)))))) (IntKind.wrap .u64 (rdL (0 : Int) a1 (IntKind.wrap .i64 ((((List.length a1) : Nat) : Int) - (1 : Int))))))) (4294967295 : Int))))) else none) else none) else none)
theorem xX.e (x : Tup (sigTys xX.hd)) : fnK T0 xX.env [] xX.C Tryz.f174 2 68 xX.hd xX.os x = xX.f x.1 x.2 := by kernel_rfl
def xX.fn : Kn P0 G0 := ⟨174,2,68,xX.hd,1,xX.os,fun x => xX.f x.1 x.2,contract (T := T0) (fn := Tryz.f174) hm0 hT0 (by kernel_rfl) (by kernel_rfl) (L := []) (C := xX.C) (by kernel_rfl) (by decide) rfl (by kernel_rfl) (loops_fn xX.d trivial) (xX.e),none⟩
def xu.hd : Sig := [⟨false,0,(.imm (.int .i64))⟩]
def xu.os : List Sig := [[⟨false,0,(.imm .bool)⟩]]
def xu.C : List CutAt := []
def xu.env : List (Kn P0 G0) := []
theorem xu.d : distN (loopIds (Tryz.f169.body.getD .skip) 0) = true := by kernel_rfl
def xu.f (a0 : Int) : Option Bool := (some (a0 != a0))
theorem xu.e (x : Tup (sigTys xu.hd)) : fnK T0 xu.env [] xu.C Tryz.f169 1 12 xu.hd xu.os x = xu.f x := by kernel_rfl
def xu.fn : Kn P0 G0 := ⟨169,1,12,xu.hd,1,xu.os,fun x => xu.f x,contract (T := T0) (fn := Tryz.f169) hm0 hT0 (by kernel_rfl) (by kernel_rfl) (L := []) (C := xu.C) (by kernel_rfl) (by decide) rfl (by kernel_rfl) (loops_fn xu.d trivial) (xu.e),none⟩
def xa.hd : Sig := [⟨false,0,(.imm (.int .i64))⟩,⟨false,1,(.imm (.int .i64))⟩]
def xa.os : List Sig := [[⟨false,0,(.imm (.int .i64))⟩]]
def xa.C : List CutAt := []
def xa.env : List (Kn P0 G0) := [xu.fn]
theorem xa.d : distN (loopIds (Tryz.f148.body.getD .skip) 0) = true := by kernel_rfl
def xa.f (a0 : Int) (a1 : Int) : Option Int := (Option.bind (xu.f a0) fun y2 => (Option.bind (xu.f a1) fun y3 => (bif y2 then (bif y3 then (some (0 : Int)) else (some (-(1 : Int)))) else (bif y3 then (some (1 : Int)) else (bif (decide (a0 < a1)) then (some (-(1 : Int))) else (bif (decide (a0 > a1)) then (some (1 : Int)) else (some (0 : Int))))))))
theorem xa.e (x : Tup (sigTys xa.hd)) : fnK T0 xa.env [] xa.C Tryz.f148 2 40 xa.hd xa.os x = xa.f x.1 x.2 := by kernel_rfl
def xa.fn : Kn P0 G0 := ⟨148,2,40,xa.hd,1,xa.os,fun x => xa.f x.1 x.2,contract (T := T0) (fn := Tryz.f148) hm0 hT0 (by kernel_rfl) (by kernel_rfl) (L := []) (C := xa.C) (by kernel_rfl) (by decide) rfl (by kernel_rfl) (loops_fn xa.d trivial) (xa.e),none⟩
def yR.hd : Sig := [⟨false,0,(.imm (.int .u32))⟩]
def yR.os : List Sig := [[⟨false,0,(.imm .bool)⟩]]
def yR.C : List CutAt := []
def yR.env : List (Kn P0 G0) := []
theorem yR.d : distN (loopIds (Tryz.f170.body.getD .skip) 0) = true := by kernel_rfl
def yR.f (a0 : Int) : Option Bool := (some (a0 != a0))
theorem yR.e (x : Tup (sigTys yR.hd)) : fnK T0 yR.env [] yR.C Tryz.f170 1 12 yR.hd yR.os x = yR.f x := by kernel_rfl
def yR.fn : Kn P0 G0 := ⟨170,1,12,yR.hd,1,yR.os,fun x => yR.f x,contract (T := T0) (fn := Tryz.f170) hm0 hT0 (by kernel_rfl) (by kernel_rfl) (L := []) (C := yR.C) (by kernel_rfl) (by decide) rfl (by kernel_rfl) (loops_fn yR.d trivial) (yR.e),none⟩
def yK.hd : Sig := [⟨false,0,(.imm (.int .u32))⟩,⟨false,1,(.imm (.int .u32))⟩]
def yK.os : List Sig := [[⟨false,0,(.imm (.int .i64))⟩]]
def yK.C : List CutAt := []
def yK.env : List (Kn P0 G0) := [yR.fn]
theorem yK.d : distN (loopIds (Tryz.f149.body.getD .skip) 0) = true := by kernel_rfl
def yK.f (a0 : Int) (a1 : Int) : Option Int := (Option.bind (yR.f a0) fun y2 => (Option.bind (yR.f a1) fun y3 => (bif y2 then (bif y3 then (some (0 : Int)) else (some (-(1 : Int)))) else (bif y3 then (some (1 : Int)) else (bif (decide (a0 < a1)) then (some (-(1 : Int))) else (bif (decide (a0 > a1)) then (some (1 : Int)) else (some (0 : Int))))))))
theorem yK.e (x : Tup (sigTys yK.hd)) : fnK T0 yK.env [] yK.C Tryz.f149 2 40 yK.hd yK.os x = yK.f x.1 x.2 := by kernel_rfl
def yK.fn : Kn P0 G0 := ⟨149,2,40,yK.hd,1,yK.os,fun x => yK.f x.1 x.2,contract (T := T0) (fn := Tryz.f149) hm0 hT0 (by kernel_rfl) (by kernel_rfl) (L := []) (C := yK.C) (by kernel_rfl) (by decide) rfl (by kernel_rfl) (loops_fn yK.d trivial) (yK.e),none⟩
def yn.hd : Sig := [⟨false,0,(.imm (.list (.int .u32)))⟩,⟨false,1,(.imm (.list (.int .u32)))⟩]
def yn.os : List Sig := [[⟨false,0,(.imm (.int .i64))⟩]]
def yn.h0 : Sig := [⟨false,0,(.imm (.list (.int .u32)))⟩,⟨false,1,(.imm (.list (.int .u32)))⟩,⟨false,7,(.imm (.int .i64))⟩]
def yn.o0 : Outs := [((.exit 0),[]),(.ret,[⟨false,4,(.imm (.int .i64))⟩])]
def yn.C : List CutAt := []
def yn.env (k : Nat) : List (Kn P0 G0) := [zX.fn k,xa.fn,yK.fn]
theorem yn.d : distN (loopIds (Tryz.f110.body.getD .skip) 0) = true := by kernel_rfl
def yn.b0 (c0 : LI → LI → Int → Option ((Unit) ⊕ Int)) (x0 : LI) (x1 : LI) (x2 : Int) : Option ((Unit) ⊕ Int) := (bif (decide (x2 ≥ (0 : Int))) then (bif (decide (((0 : Int) ≤ x2) ∧ (x2 < (((List.length x0) : Nat) : Int)))) then (bif (decide (((0 : Int) ≤ x2) ∧ (x2 < (((List.length x1) : Nat) : Int)))) then (Option.bind (yK.f (rdL (0 : Int) x0 x2) (rdL (0 : Int) x1 x2)) fun y5 => (bif (y5 != (0 : Int)) then (some (Sum.inr y5)) else (c0 x0 x1 (IntKind.wrap .i64 (x2 - (1 : Int)))))) else none) else none) else (some (Sum.inl ())))
def yn.l0 : Nat → LI → LI → Int → Option ((Unit) ⊕ Int)
 | 0,_,_,_ => none
 | k + 1,x0,x1,x2 => yn.b0 (yn.l0 k) x0 x1 x2
noncomputable def yn.V0 x0 x1 x2 := lim fun k => yn.l0 k x0 x1 x2
theorem yn.v0 x0 x1 x2 {y} (h : yn.b0 yn.V0 x0 x1 x2 = some y) : yn.V0 x0 x1 x2 = some y := Le.v (.succ (by unfold yn.l0 yn.b0;repeat (first | with_reducible first | exact Le.const | refine Le.bind ?_ fun _ => ?_ | refine Le.cond ?_ ?_ | refine Le.elim (fun _ => ?_) fun _ => ?_ | exact Le.of rfl))) h
def yn.L0 (k : Nat) : LFn := ⟨yn.h0,yn.o0,fun x => yn.l0 k x.1 x.2.1 x.2.2⟩
theorem yn.r0 (k : Nat) (x : Tup (sigTys yn.h0)) : roundK T0 (yn.env k) 36 72 [] yn.C (loopOf Tryz.f110 0) 0 yn.h0 yn.o0 (yn.L0 k).f x = (yn.L0 (k + 1)).f x := by kernel_rfl
theorem yn.s0 (k : Nat) : LoopSound P0 G0 36 72 (sigPins yn.hd) (yn.L0 k) (loopOf Tryz.f110 0) := loop_rounds (T := T0) hm0 hT0 (env := fun k => (yn.env k)) (nh := 72) (pn := sigPins yn.hd) (L := fun k => []) (C := yn.C) (by kernel_rfl) (hd := yn.h0) (os := yn.o0) (by kernel_rfl) (by kernel_rfl) (by kernel_rfl) (g := fun k => (yn.L0 k).f) (fun k => loops_in yn.d trivial) (fun _ => rfl) (fun k x => yn.r0 k x) k
def yn.b (c0 : LI → Option Int) (c1 : LI → LI → Int → Option ((Unit) ⊕ Int)) (a0 : LI) (a1 : LI) : Option Int := (Option.bind (c0 a0) fun y3 => (Option.bind (c0 a1) fun y4 => (Option.bind (xa.f y3 y4) fun y5 => (bif (y5 != (0 : Int)) then (some y5) else (Option.bind (c1 a0 (a1,(IntKind.wrap .i64 (y3 - (1 : Int)))).1 (a1,(IntKind.wrap .i64 (y3 - (1 : Int)))).2) fun y6 => (Sum.elim (fun y7 => (some (0 : Int))) (fun y7 => (some y7)) y6))))))
def yn.f (k : Nat) a0 a1 := yn.b (zX.f k) (yn.l0 k) a0 a1
noncomputable def yn.V a0 a1 := lim fun k => yn.f k a0 a1
theorem yn.v a0 a1 {y} (h : yn.b zX.V yn.V0 a0 a1 = some y) : yn.V a0 a1 = some y := Le.v (by unfold yn.f yn.b;repeat (first | with_reducible first | exact Le.const | refine Le.bind ?_ fun _ => ?_ | refine Le.cond ?_ ?_ | refine Le.elim (fun _ => ?_) fun _ => ?_ | exact Le.of rfl)) h
theorem yn.e (k : Nat) (x : Tup (sigTys yn.hd)) : fnK T0 (yn.env k) [⟨0,yn.L0 k⟩] yn.C Tryz.f110 2 72 yn.hd yn.os x = yn.f k x.1 x.2 := by kernel_rfl
def yn.fn (k : Nat) : Kn P0 G0 := ⟨110,2,72,yn.hd,1,yn.os,fun x => yn.f k x.1 x.2,contract (T := T0) (fn := Tryz.f110) hm0 hT0 (by kernel_rfl) (by kernel_rfl) (L := [⟨0,yn.L0 k⟩]) (C := yn.C) (by kernel_rfl) (by decide) rfl (by kernel_rfl) (loops_fn yn.d ⟨yn.s0 k,trivial⟩) (yn.e k),none⟩
def wc.hd : Sig := [⟨false,0,(.imm (.list (.int .u32)))⟩,⟨false,1,(.imm (.int .i64))⟩]
def wc.os : List Sig := [[⟨false,0,(.imm (.int .u32))⟩]]
def wc.C : List CutAt := []
def wc.env : List (Kn P0 G0) := []
theorem wc.d : distN (loopIds (Tryz.f176.body.getD .skip) 0) = true := by kernel_rfl
def wc.f (a0 : LI) (a1 : Int) : Option Int := (bif (decide (a1 < (((List.length a0) : Nat) : Int))) then (bif (decide (((0 : Int) ≤ a1) ∧ (a1 < (((List.length a0) : Nat) : Int)))) then (some (rdL (0 : Int) a0 a1)) else none) else (some (0 : Int)))
theorem wc.e (x : Tup (sigTys wc.hd)) : fnK T0 wc.env [] wc.C Tryz.f176 2 26 wc.hd wc.os x = wc.f x.1 x.2 := by kernel_rfl
def wc.fn : Kn P0 G0 := ⟨176,2,26,wc.hd,1,wc.os,fun x => wc.f x.1 x.2,contract (T := T0) (fn := Tryz.f176) hm0 hT0 (by kernel_rfl) (by kernel_rfl) (L := []) (C := wc.C) (by kernel_rfl) (by decide) rfl (by kernel_rfl) (loops_fn wc.d trivial) (wc.e),none⟩
def xe.hd : Sig := [⟨false,0,(.imm (.int .u32))⟩,⟨false,1,(.imm (.int .u32))⟩,⟨false,2,(.imm (.int .u32))⟩]
def xe.os : List Sig := [[⟨false,0,(.imm (.int .u32))⟩,⟨false,1,(.imm (.int .u32))⟩]]
def xe.C : List CutAt := []
def xe.env : List (Kn P0 G0) := []
theorem xe.d : distN (loopIds (Tryz.f177.body.getD .skip) 0) = true := by kernel_rfl
def xe.f (a0 : Int) (a1 : Int) (a2 : Int) : Option (Int × Int) := (some ((IntKind.wrap .u32 ((IntKind.wrap .u32 (a0 - a1)) - a2)),(shrI .u32 (bor .u32 (band .u32 (cplI .u32 a0) a1) (band .u32 (cplI .u32 (bxor .u32 a0 a1)) (IntKind.wrap .u32 ((IntKind.wrap .u32 (a0 - a1)) - a2)))) (31 : Int))))
theorem xe.e (x : Tup (sigTys xe.hd)) : fnK T0 xe.env [] xe.C Tryz.f177 3 50 xe.hd xe.os x = xe.f x.1 x.2.1 x.2.2 := by kernel_rfl
def xe.fn : Kn P0 G0 := ⟨177,3,50,xe.hd,2,xe.os,fun x => xe.f x.1 x.2.1 x.2.2,contract (T := T0) (fn := Tryz.f177) hm0 hT0 (by kernel_rfl) (by kernel_rfl) (L := []) (C := xe.C) (by kernel_rfl) (by decide) rfl (by kernel_rfl) (loops_fn xe.d trivial) (xe.e),none⟩
def yq.hd : Sig := [⟨false,0,(.imm (.list (.int .u32)))⟩,⟨false,1,(.imm (.list (.int .u32)))⟩]
def yq.os : List Sig := [[⟨false,0,.nilS⟩,⟨false,1,(.imm .bool)⟩],[⟨false,0,(.own 37 false 111 (.int .u32))⟩,⟨false,1,(.imm .bool)⟩]]
def yq.h0 : Sig := [⟨false,1,(.imm (.list (.int .u32)))⟩,⟨false,6,(.own 14 false 111 (.int .u32))⟩,⟨false,7,(.imm (.int .u32))⟩,⟨false,16,(.imm (.int .i64))⟩,⟨false,17,(.imm (.int .i64))⟩]
def yq.o0 : Outs := [((.exit 0),[⟨false,6,(.own 14 false 111 (.int .u32))⟩])]
def yq.C : List CutAt := []
def yq.env (k : Nat) : List (Kn P0 G0) := [yn.fn k,yy.fn k,wc.fn,xe.fn]
theorem yq.d : distN (loopIds (Tryz.f155.body.getD .skip) 0) = true := by kernel_rfl
def yq.b0 (c0 : LI → LI → Int → Int → Int → Option LI) (x0 : LI) (x1 : LI) (x2 : Int) (x3 : Int) (x4 : Int) : Option LI := (bif (decide (x4 < x3)) then (bif (decide (((0 : Int) ≤ x4) ∧ (x4 < (((List.length x1) : Nat) : Int)))) then (Option.bind (wc.f x0 x4) fun y7 => (Option.bind (xe.f (rdL (0 : Int) x1 x4) (y7,x2).1 (y7,x2).2) fun y8 => (bif (decide (((0 : Int) ≤ x4) ∧ (x4 < (((List.length x1) : Nat) : Int)))) then (c0 x0 (List.set x1 (Int.toNat x4) y8.1) y8.2 x3 (IntKind.wrap .i64 (x4 + (1 : Int)))) else none))) else none) else (some x1))
def yq.l0 : Nat → LI → LI → Int → Int → Int → Option LI
 | 0,_,_,_,_,_ => none
 | k + 1,x0,x1,x2,x3,x4 => yq.b0 (yq.l0 k) x0 x1 x2 x3 x4
noncomputable def yq.V0 x0 x1 x2 x3 x4 := lim fun k => yq.l0 k x0 x1 x2 x3 x4
theorem yq.v0 x0 x1 x2 x3 x4 {y} (h : yq.b0 yq.V0 x0 x1 x2 x3 x4 = some y) : yq.V0 x0 x1 x2 x3 x4 = some y := Le.v (.succ (by unfold yq.l0 yq.b0;repeat (first | with_reducible first | exact Le.const | refine Le.bind ?_ fun _ => ?_ | refine Le.cond ?_ ?_ | refine Le.elim (fun _ => ?_) fun _ => ?_ | exact Le.of rfl))) h
def yq.L0 (k : Nat) : LFn := ⟨yq.h0,yq.o0,fun x => yq.l0 k x.1 x.2.1 x.2.2.1 x.2.2.2.1 x.2.2.2.2⟩
theorem yq.r0 (k : Nat) (x : Tup (sigTys yq.h0)) : roundK T0 (yq.env k) 38 76 [] yq.C (loopOf Tryz.f155 0) 0 yq.h0 yq.o0 (yq.L0 k).f x = (yq.L0 (k + 1)).f x := by kernel_rfl
theorem yq.s0 (k : Nat) : LoopSound P0 G0 38 76 (sigPins yq.hd) (yq.L0 k) (loopOf Tryz.f155 0) := loop_rounds (T := T0) hm0 hT0 (env := fun k => (yq.env k)) (nh := 76) (pn := sigPins yq.hd) (L := fun k => []) (C := yq.C) (by kernel_rfl) (hd := yq.h0) (os := yq.o0) (by kernel_rfl) (by kernel_rfl) (by kernel_rfl) (g := fun k => (yq.L0 k).f) (fun k => loops_in yq.d trivial) (fun _ => rfl) (fun k x => yq.r0 k x) k
def yq.b (c0 : LI → LI → Option Int) (c1 : LI → Option LI) (c2 : LI → LI → Int → Int → Int → Option LI) (a0 : LI) (a1 : LI) : Option (Bool ⊕ (LI × Bool)) := (Option.bind (c0 a0 a1) fun y3 => (bif (decide (y3 < (0 : Int))) then (some (Sum.inl false)) else (Option.bind (c1 a0) fun y4 => (Option.bind (c2 a1 (y4,((0 : Int),((((List.length y4) : Nat) : Int),(0 : Int)))).1 (y4,((0 : Int),((((List.length y4) : Nat) : Int),(0 : Int)))).2.1 (y4,((0 : Int),((((List.length y4) : Nat) : Int),(0 : Int)))).2.2.1 (y4,((0 : Int),((((List.length y4) : Nat) : Int),(0 : Int)))).2.2.2) fun y5 => (Option.bind (c1 y5) fun y6 => (some (Sum.inr (y6,true))))))))
def yq.f (k : Nat) a0 a1 := yq.b (yn.f k) (yy.f k) (yq.l0 k) a0 a1
noncomputable def yq.V a0 a1 := lim fun k => yq.f k a0 a1
theorem yq.v a0 a1 {y} (h : yq.b yn.V yy.V yq.V0 a0 a1 = some y) : yq.V a0 a1 = some y := Le.v (by unfold yq.f yq.b;repeat (first | with_reducible first | exact Le.const | refine Le.bind ?_ fun _ => ?_ | refine Le.cond ?_ ?_ | refine Le.elim (fun _ => ?_) fun _ => ?_ | exact Le.of rfl)) h
theorem yq.e (k : Nat) (x : Tup (sigTys yq.hd)) : fnK T0 (yq.env k) [⟨0,yq.L0 k⟩] yq.C Tryz.f155 2 76 yq.hd yq.os x = yq.f k x.1 x.2 := by kernel_rfl
def yq.fn (k : Nat) : Kn P0 G0 := ⟨155,2,76,yq.hd,2,yq.os,fun x => yq.f k x.1 x.2,contract (T := T0) (fn := Tryz.f155) hm0 hT0 (by kernel_rfl) (by kernel_rfl) (L := [⟨0,yq.L0 k⟩]) (C := yq.C) (by kernel_rfl) (by decide) rfl (by kernel_rfl) (loops_fn yq.d ⟨yq.s0 k,trivial⟩) (yq.e k),none⟩
def yj.hd : Sig := [⟨false,0,(.imm (.list (.int .u32)))⟩,⟨false,1,(.imm (.list (.int .u32)))⟩,⟨false,2,(.imm (.int .u32))⟩]
def yj.os : List Sig := [[⟨false,0,(.own 15 false 111 (.int .u32))⟩,⟨false,1,(.imm (.int .u32))⟩]]
def yj.h0 : Sig := [⟨false,0,(.imm (.list (.int .u32)))⟩,⟨false,1,(.imm (.list (.int .u32)))⟩,⟨false,2,(.imm (.int .u32))⟩]
def yj.o0 : Outs := [(.ret,[⟨false,6,(.own 15 false 111 (.int .u32))⟩,⟨false,7,(.imm (.int .u32))⟩])]
def yj.C : List CutAt := []
def yj.env (k : Nat) : List (Kn P0 G0) := [xc.fn k,yq.fn k]
theorem yj.d : distN (loopIds (Tryz.f173.body.getD .skip) 0) = true := by kernel_rfl
def yj.b0 (c0 : LI → Int → Option LI) (c1 : LI → LI → Option (Bool ⊕ (LI × Bool))) (c2 : LI → LI → Int → Option (LI × Int)) (x0 : LI) (x1 : LI) (x2 : Int) : Option (LI × Int) := (Option.bind (c0 x1 x2) fun y5 => (Option.bind (c1 x0 y5) fun y6 => (Sum.elim (fun y7 => (bif y7 then (some (([] : LI),x2)) else (c2 x0 x1 (IntKind.wrap .u32 (x2 - (1 : Int)))))) (fun y7 => (bif y7.2 then (some (y7.1,x2)) else (c2 x0 x1 (IntKind.wrap .u32 (x2 - (1 : Int)))))) y6)))
def yj.l0 : Nat → LI → LI → Int → Option (LI × Int)
 | 0,_,_,_ => none
 | k + 1,x0,x1,x2 => yj.b0 (xc.f k) (yq.f k) (yj.l0 k) x0 x1 x2
noncomputable def yj.V0 x0 x1 x2 := lim fun k => yj.l0 k x0 x1 x2
theorem yj.v0 x0 x1 x2 {y} (h : yj.b0 xc.V yq.V yj.V0 x0 x1 x2 = some y) : yj.V0 x0 x1 x2 = some y := Le.v (.succ (by unfold yj.l0 yj.b0;repeat (first | with_reducible first | exact Le.const | refine Le.bind ?_ fun _ => ?_ | refine Le.cond ?_ ?_ | refine Le.elim (fun _ => ?_) fun _ => ?_ | exact Le.of rfl))) h
def yj.L0 (k : Nat) : LFn := ⟨yj.h0,yj.o0,fun x => yj.l0 k x.1 x.2.1 x.2.2⟩
theorem yj.r0 (k : Nat) (x : Tup (sigTys yj.h0)) : roundK T0 (yj.env k) 23 46 [] yj.C (loopOf Tryz.f173 0) 0 yj.h0 yj.o0 (yj.L0 k).f x = (yj.L0 (k + 1)).f x := by kernel_rfl
theorem yj.s0 (k : Nat) : LoopSound P0 G0 23 46 (sigPins yj.hd) (yj.L0 k) (loopOf Tryz.f173 0) := loop_rounds (T := T0) hm0 hT0 (env := fun k => (yj.env k)) (nh := 46) (pn := sigPins yj.hd) (L := fun k => []) (C := yj.C) (by kernel_rfl) (hd := yj.h0) (os := yj.o0) (by kernel_rfl) (by kernel_rfl) (by kernel_rfl) (g := fun k => (yj.L0 k).f) (fun k => loops_in yj.d trivial) (fun _ => rfl) (fun k x => yj.r0 k x) k
def yj.b (c0 : LI → LI → Int → Option (LI × Int)) (a0 : LI) (a1 : LI) (a2 : Int) : Option (LI × Int) := (Option.bind (c0 a0 (a1,a2).1 (a1,a2).2) fun y4 => (some (y4.1,y4.2)))
def yj.f (k : Nat) a0 a1 a2 := yj.b (yj.l0 k) a0 a1 a2
noncomputable def yj.V a0 a1 a2 := lim fun k => yj.f k a0 a1 a2
theorem yj.v a0 a1 a2 {y} (h : yj.b yj.V0 a0 a1 a2 = some y) : yj.V a0 a1 a2 = some y := Le.v (by unfold yj.f yj.b;repeat (first | with_reducible first | exact Le.const | refine Le.bind ?_ fun _ => ?_ | refine Le.cond ?_ ?_ | refine Le.elim (fun _ => ?_) fun _ => ?_ | exact Le.of rfl)) h
theorem yj.e (k : Nat) (x : Tup (sigTys yj.hd)) : fnK T0 (yj.env k) [⟨0,yj.L0 k⟩] yj.C Tryz.f173 3 46 yj.hd yj.os x = yj.f k x.1 x.2.1 x.2.2 := by kernel_rfl
def yj.fn (k : Nat) : Kn P0 G0 := ⟨173,3,46,yj.hd,2,yj.os,fun x => yj.f k x.1 x.2.1 x.2.2,contract (T := T0) (fn := Tryz.f173) hm0 hT0 (by kernel_rfl) (by kernel_rfl) (L := [⟨0,yj.L0 k⟩]) (C := yj.C) (by kernel_rfl) (by decide) rfl (by kernel_rfl) (loops_fn yj.d ⟨yj.s0 k,trivial⟩) (yj.e k),none⟩
def yr.hd : Sig := [⟨false,0,(.imm (.list (.int .u32)))⟩,⟨false,1,(.imm (.list (.int .u32)))⟩]
def yr.os : List Sig := [[⟨false,0,.nilS⟩,⟨false,1,.nilS⟩,⟨false,2,(.imm .bool)⟩],[⟨false,0,(.own 67 false 111 (.int .u32))⟩,⟨false,1,(.own 71 false 111 (.int .u32))⟩,⟨false,2,(.imm .bool)⟩]]
def yr.h0 : Sig := [⟨false,0,(.own 25 false 111 (.int .u32))⟩,⟨false,1,(.own 28 false 111 (.int .u32))⟩,⟨false,4,(.own 31 false 111 (.int .u32))⟩,⟨false,7,(.imm (.int .i64))⟩,⟨false,8,(.own 32 false 111 (.int .u32))⟩,⟨false,9,(.imm (.int .i64))⟩]
def yr.o0 : Outs := [((.exit 0),[⟨false,4,(.own 31 false 111 (.int .u32))⟩,⟨false,7,(.imm (.int .i64))⟩,⟨false,8,(.own 32 false 111 (.int .u32))⟩])]
def yr.C : List CutAt := []
def yr.env (k : Nat) : List (Kn P0 G0) := [yy.fn k,yA.fn,xx.fn k,xX.fn,yj.fn k]
theorem yr.d : distN (loopIds (Tryz.f151.body.getD .skip) 0) = true := by kernel_rfl
def yr.b0 (c0 : LI → LI → Int → Option (LI × Int)) (c1 : LI → LI → LI → Int → LI → Int → Option (LI × Int × LI)) (x0 : LI) (x1 : LI) (x2 : LI) (x3 : Int) (x4 : LI) (x5 : Int) : Option (LI × Int × LI) := (bif (decide (x5 ≥ (0 : Int))) then (bif (decide (((0 : Int) ≤ (IntKind.wrap .i64 ((((List.length x1) : Nat) : Int) + (1 : Int)))) ∧ (((IntKind.wrap .i64 ((((List.length x1) : Nat) : Int) + (1 : Int))) ≤ (IntKind.wrap .i64 ((((List.length x1) : Nat) : Int) + (1 : Int)))) ∧ ((IntKind.wrap .i64 ((((List.length x1) : Nat) : Int) + (1 : Int))) ≤ ((68719476736 : Nat) : Int))))) then (bif (decide (((0 : Int) ≤ (1 : Int)) ∧ ((1 : Int) ≤ (((List.length (List.replicate (Int.toNat (IntKind.wrap .i64 ((((List.length x1) : Nat) : Int) + (1 : Int)))) (0 : Int))) : Nat) : Int)))) then (bif (decide (((0 : Int) ≤ x5) ∧ (x5 < (((List.length x0) : Nat) : Int)))) then (bif (decide (((0 : Int) ≤ (0 : Int)) ∧ ((0 : Int) < (((List.length (copyAt (Int.toNat (1 : Int)) (Int.toNat ((((List.length (List.replicate (Int.toNat (IntKind.wrap .i64 ((((List.length x1) : Nat) : Int) + (1 : Int)))) (0 : Int))) : Nat) : Int) - (1 : Int))) x4 (List.replicate (Int.toNat (IntKind.wrap .i64 ((((List.length x1) : Nat) : Int) + (1 : Int)))) (0 : Int)))) : Nat) : Int)))) then (Option.bind (xX.f (List.set (copyAt (Int.toNat (1 : Int)) (Int.toNat ((((List.length (List.replicate (Int.toNat (IntKind.wrap .i64 ((((List.length x1) : Nat) : Int) + (1 : Int)))) (0 : Int))) : Nat) : Int) - (1 : Int))) x4 (List.replicate (Int.toNat (IntKind.wrap .i64 ((((List.length x1) : Nat) : Int) + (1 : Int)))) (0 : Int))) (Int.toNat (0 : Int)) (rdL (0 : Int) x0 x5)) x1) fun y8 => (Option.bind (c0 (List.set (copyAt (Int.toNat (1 : Int)) (Int.toNat ((((List.length (List.replicate (Int.toNat (IntKind.wrap .i64 ((((List.length x1) : Nat) : Int) + (1 : Int)))) (0 : Int))) : Nat) : Int) - (1 : Int))) x4 (List.replicate (Int.toNat (IntKind.wrap .i64 ((((List.length x1) : Nat) : Int) + (1 : Int)))) (0 : Int))) (Int.toNat (0 : Int)) (rdL (0 : Int) x0 x5)) (x1,y8).1 (x1,y8).2) fun y9 => (bif (decide (((0 : Int) ≤ x5) ∧ (x5 < (((List.length x2) : Nat) : Int)))) then (c1 x0 x1 (List.set x2 (Int.toNat x5) y9.2) x3 y9.1 (IntKind.wrap .i64 (x5 - (1 : Int)))) else none))) else none) else none) else none) else none) else (some (x2,(x3,x4))))
def yr.l0 : Nat → LI → LI → LI → Int → LI → Int → Option (LI × Int × LI)
 | 0,_,_,_,_,_,_ => none
 | k + 1,x0,x1,x2,x3,x4,x5 => yr.b0 (yj.f k) (yr.l0 k) x0 x1 x2 x3 x4 x5
noncomputable def yr.V0 x0 x1 x2 x3 x4 x5 := lim fun k => yr.l0 k x0 x1 x2 x3 x4 x5
theorem yr.v0 x0 x1 x2 x3 x4 x5 {y} (h : yr.b0 yj.V yr.V0 x0 x1 x2 x3 x4 x5 = some y) : yr.V0 x0 x1 x2 x3 x4 x5 = some y := Le.v (.succ (by unfold yr.l0 yr.b0;repeat (first | with_reducible first | exact Le.const | refine Le.bind ?_ fun _ => ?_ | refine Le.cond ?_ ?_ | refine Le.elim (fun _ => ?_) fun _ => ?_ | exact Le.of rfl))) h
def yr.L0 (k : Nat) : LFn := ⟨yr.h0,yr.o0,fun x => yr.l0 k x.1 x.2.1 x.2.2.1 x.2.2.2.1 x.2.2.2.2.1 x.2.2.2.2.2⟩
theorem yr.r0 (k : Nat) (x : Tup (sigTys yr.h0)) : roundK T0 (yr.env k) 72 144 [] yr.C (loopOf Tryz.f151 0) 0 yr.h0 yr.o0 (yr.L0 k).f x = (yr.L0 (k + 1)).f x := by kernel_rfl
theorem yr.s0 (k : Nat) : LoopSound P0 G0 72 144 (sigPins yr.hd) (yr.L0 k) (loopOf Tryz.f151 0) := loop_rounds (T := T0) hm0 hT0 (env := fun k => (yr.env k)) (nh := 144) (pn := sigPins yr.hd) (L := fun k => []) (C := yr.C) (by kernel_rfl) (hd := yr.h0) (os := yr.o0) (by kernel_rfl) (by kernel_rfl) (by kernel_rfl) (g := fun k => (yr.L0 k).f) (fun k => loops_in yr.d trivial) (fun _ => rfl) (fun k x => yr.r0 k x) k
def yr.b (c0 : LI → Option LI) (c1 : LI → Int → Option LI) (c2 : LI → LI → LI → Int → LI → Int → Option (LI × Int × LI)) (a0 : LI) (a1 : LI) : Option (Bool ⊕ (LI × LI × Bool)) := (Option.bind (c0 a1) fun y3 => (bif ((((List.length y3) : Nat) : Int) == (0 : Int)) then (some (Sum.inl false)) else (bif (decide (((0 : Int) ≤ (IntKind.wrap .i64 ((((List.length y3) : Nat) : Int) - (1 : Int)))) ∧ ((IntKind.wrap .i64 ((((List.length y3) : Nat) : Int) - (1 : Int))) < (((List.length y3) : Nat) : Int)))) then (Option.bind (yA.f (rdL (0 : Int) y3 (IntKind.wrap .i64 ((((List.length y3) : Nat) : Int) - (1 : Int))))) fun y4 => (Option.bind (c1 a0 y4) fun y5 => (Option.bind (c1 y3 y4) fun y6 => (bif (decide (((0 : Int) ≤ (((List.length y5) : Nat) : Int)) ∧ (((((List.length y5) : Nat) : Int) ≤ (((List.length y5) : Nat) : Int)) ∧ ((((List.length y5) : Nat) : Int) ≤ ((68719476736 : Nat) : Int))))) then (Option.bind (c2 y5 (y6,((List.replicate (Int.toNat (((List.length y5) : Nat) : Int)) (0 : Int)),(y4,(([] : LI),(IntKind.wrap .i64 ((((List.length y5) : Nat) : Int) - (1 : Int))))))).1 (y6,((List.replicate (Int.toNat (((List.length y5) : Nat) : Int)) (0 : Int)),(y4,(([] : LI),(IntKind.wrap .i64 ((((List.length y5) : Nat) : Int) - (1 : Int))))))).2.1 (y6,((List.replicate (Int.toNat (((List.length y5) : Nat) : Int)) (0 : Int)),(y4,(([] : LI),(IntKind.wrap .i64 ((((List.length y5) : Nat) : Int) - (1 : Int))))))).2.2.1 (y6,((List.replicate (Int.toNat (((List.length y5) : Nat) : Int)) (0 : Int)),(y4,(([] : LI),(IntKind.wrap .i64 ((((List.length y5) : Nat) : Int) - (1 : Int))))))).2.2.2.1 (y6,((List.replicate (Int.toNat (((List.length y5) : Nat) : Int)) (0 : Int)),(y4,(([] : LI),(IntKind.wrap .i64 ((((List.length y5) : Nat) : Int) - (1 : Int))))))).2.2.2.2) fun y7 => (Option.bind (c0 y7.1) fun y8 => (Option.bind (c1 y7.2.2 (IntKind.wrap .i64 ((0 : Int) - y7.2.1))) fun y9 => (some (Sum.inr (y8,(y9,true))))))) else none)))) else none)))
def yr.f (k : Nat) a0 a1 := yr.b (yy.f k) (xx.f k) (yr.l0 k) a0 a1
noncomputable def yr.V a0 a1 := lim fun k => yr.f k a0 a1
theorem yr.v a0 a1 {y} (h : yr.b yy.V xx.V yr.V0 a0 a1 = some y) : yr.V a0 a1 = some y := Le.v (by unfold yr.f yr.b;repeat (first | with_reducible first | exact Le.const | refine Le.bind ?_ fun _ => ?_ | refine Le.cond ?_ ?_ | refine Le.elim (fun _ => ?_) fun _ => ?_ | exact Le.of rfl)) h
theorem yr.e (k : Nat) (x : Tup (sigTys yr.hd)) : fnK T0 (yr.env k) [⟨0,yr.L0 k⟩] yr.C Tryz.f151 2 144 yr.hd yr.os x = yr.f k x.1 x.2 := by kernel_rfl
def yr.fn (k : Nat) : Kn P0 G0 := ⟨151,2,144,yr.hd,3,yr.os,fun x => yr.f k x.1 x.2,contract (T := T0) (fn := Tryz.f151) hm0 hT0 (by kernel_rfl) (by kernel_rfl) (L := [⟨0,yr.L0 k⟩]) (C := yr.C) (by kernel_rfl) (by decide) rfl (by kernel_rfl) (loops_fn yr.d ⟨yr.s0 k,trivial⟩) (yr.e k),none⟩
def yv.hd : Sig := [⟨false,0,(.imm (.list (.int .u32)))⟩,⟨false,1,(.imm (.list (.int .u32)))⟩]
def yv.os : List Sig := [[⟨false,0,(.own 9 false 111 (.int .u32))⟩]]
def yv.h0 : Sig := [⟨false,0,(.own 9 false 111 (.int .u32))⟩,⟨false,1,(.own 11 false 111 (.int .u32))⟩]
def yv.o0 : Outs := [((.exit 0),[⟨false,0,(.own 9 false 111 (.int .u32))⟩])]
def yv.C : List CutAt := []
def yv.env (k : Nat) : List (Kn P0 G0) := [yy.fn k,yr.fn k]
theorem yv.d : distN (loopIds (Tryz.f111.body.getD .skip) 0) = true := by kernel_rfl
def yv.b0 (c0 : LI → LI → Option (Bool ⊕ (LI × LI × Bool))) (c1 : LI → LI → Option LI) (x0 : LI) (x1 : LI) : Option LI := (bif (decide ((((List.length x1) : Nat) : Int) > (0 : Int))) then (Option.bind (c0 x0 x1) fun y4 => (Sum.elim (fun y5 => none) (fun y5 => (c1 x1 y5.2.1)) y4)) else (some x0))
def yv.l0 : Nat → LI → LI → Option LI
 | 0,_,_ => none
 | k + 1,x0,x1 => yv.b0 (yr.f k) (yv.l0 k) x0 x1
noncomputable def yv.V0 x0 x1 := lim fun k => yv.l0 k x0 x1
theorem yv.v0 x0 x1 {y} (h : yv.b0 yr.V yv.V0 x0 x1 = some y) : yv.V0 x0 x1 = some y := Le.v (.succ (by unfold yv.l0 yv.b0;repeat (first | with_reducible first | exact Le.const | refine Le.bind ?_ fun _ => ?_ | refine Le.cond ?_ ?_ | refine Le.elim (fun _ => ?_) fun _ => ?_ | exact Le.of rfl))) h
def yv.L0 (k : Nat) : LFn := ⟨yv.h0,yv.o0,fun x => yv.l0 k x.1 x.2⟩
theorem yv.r0 (k : Nat) (x : Tup (sigTys yv.h0)) : roundK T0 (yv.env k) 25 50 [] yv.C (loopOf Tryz.f111 0) 0 yv.h0 yv.o0 (yv.L0 k).f x = (yv.L0 (k + 1)).f x := by kernel_rfl
theorem yv.s0 (k : Nat) : LoopSound P0 G0 25 50 (sigPins yv.hd) (yv.L0 k) (loopOf Tryz.f111 0) := loop_rounds (T := T0) hm0 hT0 (env := fun k => (yv.env k)) (nh := 50) (pn := sigPins yv.hd) (L := fun k => []) (C := yv.C) (by kernel_rfl) (hd := yv.h0) (os := yv.o0) (by kernel_rfl) (by kernel_rfl) (by kernel_rfl) (g := fun k => (yv.L0 k).f) (fun k => loops_in yv.d trivial) (fun _ => rfl) (fun k x => yv.r0 k x) k
def yv.b (c0 : LI → Option LI) (c1 : LI → LI → Option LI) (a0 : LI) (a1 : LI) : Option LI := (Option.bind (c0 a0) fun y3 => (Option.bind (c0 a1) fun y4 => (Option.bind (c1 y3 y4) fun y5 => (some y5))))
def yv.f (k : Nat) a0 a1 := yv.b (yy.f k) (yv.l0 k) a0 a1
noncomputable def yv.V a0 a1 := lim fun k => yv.f k a0 a1
theorem yv.v a0 a1 {y} (h : yv.b yy.V yv.V0 a0 a1 = some y) : yv.V a0 a1 = some y := Le.v (by unfold yv.f yv.b;repeat (first | with_reducible first | exact Le.const | refine Le.bind ?_ fun _ => ?_ | refine Le.cond ?_ ?_ | refine Le.elim (fun _ => ?_) fun _ => ?_ | exact Le.of rfl)) h
theorem yv.e (k : Nat) (x : Tup (sigTys yv.hd)) : fnK T0 (yv.env k) [⟨0,yv.L0 k⟩] yv.C Tryz.f111 2 50 yv.hd yv.os x = yv.f k x.1 x.2 := by kernel_rfl
def yv.fn (k : Nat) : Kn P0 G0 := ⟨111,2,50,yv.hd,1,yv.os,fun x => yv.f k x.1 x.2,contract (T := T0) (fn := Tryz.f111) hm0 hT0 (by kernel_rfl) (by kernel_rfl) (L := [⟨0,yv.L0 k⟩]) (C := yv.C) (by kernel_rfl) (by decide) rfl (by kernel_rfl) (loops_fn yv.d ⟨yv.s0 k,trivial⟩) (yv.e k),none⟩
def xB.hd : Sig := [⟨false,0,(.imm (.int .u64))⟩]
def xB.os : List Sig := [[⟨false,0,(.own 9 false 111 (.int .u32))⟩]]
def xB.C : List CutAt := []
def xB.env (k : Nat) : List (Kn P0 G0) := [yy.fn k]
theorem xB.d : distN (loopIds (Tryz.f112.body.getD .skip) 0) = true := by kernel_rfl
def xB.b (c0 : LI → Option LI) (a0 : Int) : Option LI := (Option.bind (c0 ((IntKind.wrap .u32 a0) :: ((IntKind.wrap .u32 (shrI .u64 a0 (32 : Int))) :: ([] : LI)))) fun y2 => (some y2))
def xB.f (k : Nat) a0 := xB.b (yy.f k) a0
noncomputable def xB.V a0 := lim fun k => xB.f k a0
theorem xB.v a0 {y} (h : xB.b yy.V a0 = some y) : xB.V a0 = some y := Le.v (by unfold xB.f xB.b;repeat (first | with_reducible first | exact Le.const | refine Le.bind ?_ fun _ => ?_ | refine Le.cond ?_ ?_ | refine Le.elim (fun _ => ?_) fun _ => ?_ | exact Le.of rfl)) h
theorem xB.e (k : Nat) (x : Tup (sigTys xB.hd)) : fnK T0 (xB.env k) [] xB.C Tryz.f112 1 20 xB.hd xB.os x = xB.f k x := by kernel_rfl
def xB.fn (k : Nat) : Kn P0 G0 := ⟨112,1,20,xB.hd,1,xB.os,fun x => xB.f k x,contract (T := T0) (fn := Tryz.f112) hm0 hT0 (by kernel_rfl) (by kernel_rfl) (L := []) (C := xB.C) (by kernel_rfl) (by decide) rfl (by kernel_rfl) (loops_fn xB.d trivial) (xB.e k),none⟩
def yB.hd : Sig := [⟨false,0,(.imm api_Rat)⟩]
def yB.os : List Sig := [[⟨false,0,(.imm .bool)⟩]]
def yB.C : List CutAt := [⟨1000002,[(.normal,[⟨false,3,(.imm (.list (.int .u32)))⟩,⟨false,4,(.imm (.list (.int .u32)))⟩,⟨false,42,(.imm .bool)⟩])]⟩]
def yB.env (k : Nat) : List (Kn P0 G0) := [xQ.fn,yv.fn k,xB.fn k,yn.fn k]
theorem yB.d : distN (loopIds (Tryz.f73.body.getD .skip) 0) = true := by kernel_rfl
def yB.b (c0 : LI → LI → Option LI) (c1 : Int → Option LI) (c2 : LI → LI → Option Int) (a0 : RA) : Option Bool := (Option.bind (Option.bind (xQ.f a0.1.2.1) fun y2 => (bif (!y2) then (some (a0.1.2.1,(a0.2.1,true))) else (Option.bind (xQ.f a0.2.1) fun y3 => (bif (!y3) then (some (a0.1.2.1,(a0.2.1,true))) else (bif ((((List.length a0.2.1) : Nat) : Int) == (0 : Int)) then (some (a0.1.2.1,(a0.2.1,true))) else (bif (decide ((((List.length a0.2.1) : Nat) : Int) > (64 : Int))) then (some (a0.1.2.1,(a0.2.1,true))) else (bif (decide ((((List.length a0.1.2.1) : Nat) : Int) > (64 : Int))) then (some (a0.1.2.1,(a0.2.1,true))) else (bif a0.1.1 then (some (a0.1.2.1,(a0.2.1,((((List.length a0.1.2.1) : Nat) : Int) == (0 : Int))))) else (some (a0.1.2.1,(a0.2.1,false))))))))))) fun y2 => (bif y2.2.2 then (some false) else (Option.bind (c0 y2.1 y2.2.1) fun y3 => (Option.bind (c1 (1 : Int)) fun y4 => (Option.bind (c2 y3 y4) fun y5 => (some (y5 == (0 : Int))))))))
def yB.f (k : Nat) a0 := yB.b (yv.f k) (xB.f k) (yn.f k) a0
noncomputable def yB.V a0 := lim fun k => yB.f k a0
theorem yB.v a0 {y} (h : yB.b yv.V xB.V yn.V a0 = some y) : yB.V a0 = some y := Le.v (by unfold yB.f yB.b;repeat (first | with_reducible first | exact Le.const | refine Le.bind ?_ fun _ => ?_ | refine Le.cond ?_ ?_ | refine Le.elim (fun _ => ?_) fun _ => ?_ | exact Le.of rfl)) h
theorem yB.e (k : Nat) (x : Tup (sigTys yB.hd)) : fnK T0 (yB.env k) [] yB.C Tryz.f73 1 98 yB.hd yB.os x = yB.f k x := by kernel_rfl
def yB.fn (k : Nat) : Kn P0 G0 := ⟨73,1,98,yB.hd,1,yB.os,fun x => yB.f k x,contract (T := T0) (fn := Tryz.f73) hm0 hT0 (by kernel_rfl) (by kernel_rfl) (L := []) (C := yB.C) (by kernel_rfl) (by decide) rfl (by kernel_rfl) (loops_fn yB.d trivial) (yB.e k),none⟩
def xY.hd : Sig := [⟨false,0,(.imm api_Rat)⟩]
def xY.os : List Sig := [[⟨false,0,(.imm .bool)⟩]]
def xY.C : List CutAt := [⟨1000001,[(.normal,[⟨false,2,(.imm .bool)⟩])]⟩]
def xY.env : List (Kn P0 G0) := []
theorem xY.d : distN (loopIds (Tryz.f133.body.getD .skip) 0) = true := by kernel_rfl
def xY.f (a0 : RA) : Option Bool := (Option.bind (bif (!a0.1.1) then (bif ((((List.length a0.1.2.1) : Nat) : Int) == (0 : Int)) then (some ((((List.length a0.2.1) : Nat) : Int) == (0 : Int))) else (some false)) else (some false)) fun y1 => (some y1))
theorem xY.e (x : Tup (sigTys xY.hd)) : fnK T0 xY.env [] xY.C Tryz.f133 1 40 xY.hd xY.os x = xY.f x := by kernel_rfl
def xY.fn : Kn P0 G0 := ⟨133,1,40,xY.hd,1,xY.os,fun x => xY.f x,contract (T := T0) (fn := Tryz.f133) hm0 hT0 (by kernel_rfl) (by kernel_rfl) (L := []) (C := xY.C) (by kernel_rfl) (by decide) rfl (by kernel_rfl) (loops_fn xY.d trivial) (xY.e),none⟩
def xp.hd : Sig := [⟨false,0,(.imm api_Term)⟩,⟨false,1,(.imm (.int .i64))⟩]
def xp.os : List Sig := [[⟨false,0,(.imm .bool)⟩]]
def xp.C : List CutAt := [⟨1000018,[(.normal,[⟨false,4,(.imm .bool)⟩])]⟩,⟨1000013,[(.normal,[⟨false,4,(.imm .bool)⟩])]⟩]
def xp.env (k : Nat) : List (Kn P0 G0) := [xj.fn,yB.fn k,xY.fn]
theorem xp.d : distN (loopIds (Tryz.f95.body.getD .skip) 0) = true := by kernel_rfl
def xp.b (c0 : RA → Option Bool) (a0 : TE) (a1 : Int) : Option Bool := (bif (a0.1 == (1 : Int)) then (bif (eqv core_face (a0.1,(a0.2.1,(a0.2.2.1,(a0.2.2.2.1,())))) ((1 : Int),((0 : Int),((0 : Int),((0 : Int),()))))) then (Option.bind (c0 a0.2.2.2.2.1) fun y3 => (some y3)) else (some false)) else (Option.bind (xY.f a0.2.2.2.2.1) fun y3 => (bif (!y3) then (some false) else (bif (a0.1 == (2 : Int)) then (bif (eqv core_face (a0.1,(a0.2.1,(a0.2.2.1,(a0.2.2.2.1,())))) ((2 : Int),((0 : Int),((0 : Int),(a0.2.2.2.1,()))))) then (some (decide (a0.2.2.2.1 ≥ (0 : Int)))) else (some false)) else (bif (a0.1 == (7 : Int)) then (bif (eqv core_face (a0.1,(a0.2.1,(a0.2.2.1,(a0.2.2.2.1,())))) ((7 : Int),(a0.2.1,((0 : Int),((0 : Int),()))))) then (Option.bind (xj.f a1 a0.2.1) fun y4 => (some y4.2)) else (some false)) else (bif (a0.1 == (8 : Int)) then (Option.bind (bif (eqv core_face (a0.1,(a0.2.1,(a0.2.2.1,(a0.2.2.2.1,())))) ((8 : Int),(a0.2.1,((0 : Int),(a0.2.2.2.1,()))))) then (Option.bind (xj.f a1 a0.2.1) fun y4 => (bif y4.2 then (bif (decide (a0.2.2.2.1 ≥ (-(128 : Int)))) then (some (decide (a0.2.2.2.1 ≤ (128 : Int)))) else (some false)) else (some false))) else (some false)) fun y4 => (some y4)) else (bif (a0.1 == (3 : Int)) then (Option.bind (bif (a0.2.2.2.1 == (0 : Int)) then (Option.bind (xj.f a1 a0.2.1) fun y4 => (bif y4.2 then (Option.bind (xj.f y4.1 a0.2.2.1) fun y5 => (some y5.2)) else (some false))) else (some false)) fun y4 => (some y4)) else (bif (a0.1 == (4 : Int)) then (Option.bind (bif (a0.2.2.2.1 == (0 : Int)) then (Option.bind (xj.f a1 a0.2.1) fun y4 => (bif y4.2 then (Option.bind (xj.f y4.1 a0.2.2.1) fun y5 => (some y5.2)) else (some false))) else (some false)) fun y4 => (some y4)) else (bif (a0.1 == (5 : Int)) then (Option.bind (bif (a0.2.2.2.1 == (0 : Int)) then (Option.bind (xj.f a1 a0.2.1) fun y4 => (bif y4.2 then (Option.bind (xj.f y4.1 a0.2.2.1) fun y5 => (some y5.2)) else (some false))) else (some false)) fun y4 => (some y4)) else (bif (a0.1 == (6 : Int)) then (Option.bind (bif (a0.2.2.2.1 == (0 : Int)) then (Option.bind (xj.f a1 a0.2.1) fun y4 => (bif y4.2 then (Option.bind (xj.f y4.1 a0.2.2.1) fun y5 => (some y5.2)) else (some false))) else (some false)) fun y4 => (some y4)) else (some false)))))))))))
def xp.f (k : Nat) a0 a1 := xp.b (yB.f k) a0 a1
noncomputable def xp.V a0 a1 := lim fun k => xp.f k a0 a1
theorem xp.v a0 a1 {y} (h : xp.b yB.V a0 a1 = some y) : xp.V a0 a1 = some y := Le.v (by unfold xp.f xp.b;repeat (first | with_reducible first | exact Le.const | refine Le.bind ?_ fun _ => ?_ | refine Le.cond ?_ ?_ | refine Le.elim (fun _ => ?_) fun _ => ?_ | exact Le.of rfl)) h
theorem xp.e (k : Nat) (x : Tup (sigTys xp.hd)) : fnK T0 (xp.env k) [] xp.C Tryz.f95 2 208 xp.hd xp.os x = xp.f k x.1 x.2 := by kernel_rfl
def xp.fn (k : Nat) : Kn P0 G0 := ⟨95,2,208,xp.hd,1,xp.os,fun x => xp.f k x.1 x.2,contract (T := T0) (fn := Tryz.f95) hm0 hT0 (by kernel_rfl) (by kernel_rfl) (L := []) (C := xp.C) (by kernel_rfl) (by decide) rfl (by kernel_rfl) (loops_fn xp.d trivial) (xp.e k),none⟩
def zV.hd : Sig := [⟨false,0,(.imm (.list api_Term))⟩]
def zV.os : List Sig := [[⟨false,0,(.imm .bool)⟩]]
def zV.h0 : Sig := [⟨false,5,(.imm (.list api_Term))⟩,⟨false,6,(.imm (.int .i64))⟩,⟨false,7,(.imm (.int .i64))⟩]
def zV.o0 : Outs := [((.exit 0),[]),(.ret,[⟨false,2,(.imm .bool)⟩])]
def zV.C : List CutAt := []
def zV.env (k : Nat) : List (Kn P0 G0) := [xp.fn k]
theorem zV.d : distN (loopIds (Tryz.f50.body.getD .skip) 0) = true := by kernel_rfl
def zV.b0 (c0 : TE → Int → Option Bool) (c1 : CO → Int → Int → Option ((Unit) ⊕ Bool)) (x0 : CO) (x1 : Int) (x2 : Int) : Option ((Unit) ⊕ Bool) := (bif (decide (x2 < x1)) then (bif (decide (((0 : Int) ≤ x2) ∧ (x2 < (((List.length x0) : Nat) : Int)))) then (Option.bind (c0 (rdL (Ty.zero api_Term) x0 x2) x2) fun y5 => (bif (!y5) then (some (Sum.inr false)) else (c1 x0 x1 (IntKind.wrap .i64 (x2 + (1 : Int)))))) else none) else (some (Sum.inl ())))
def zV.l0 : Nat → CO → Int → Int → Option ((Unit) ⊕ Bool)
 | 0,_,_,_ => none
 | k + 1,x0,x1,x2 => zV.b0 (xp.f k) (zV.l0 k) x0 x1 x2
noncomputable def zV.V0 x0 x1 x2 := lim fun k => zV.l0 k x0 x1 x2
theorem zV.v0 x0 x1 x2 {y} (h : zV.b0 xp.V zV.V0 x0 x1 x2 = some y) : zV.V0 x0 x1 x2 = some y := Le.v (.succ (by unfold zV.l0 zV.b0;repeat (first | with_reducible first | exact Le.const | refine Le.bind ?_ fun _ => ?_ | refine Le.cond ?_ ?_ | refine Le.elim (fun _ => ?_) fun _ => ?_ | exact Le.of rfl))) h
def zV.L0 (k : Nat) : LFn := ⟨zV.h0,zV.o0,fun x => zV.l0 k x.1 x.2.1 x.2.2⟩
theorem zV.r0 (k : Nat) (x : Tup (sigTys zV.h0)) : roundK T0 (zV.env k) 17 34 [] zV.C (loopOf Tryz.f50 0) 0 zV.h0 zV.o0 (zV.L0 k).f x = (zV.L0 (k + 1)).f x := by kernel_rfl
theorem zV.s0 (k : Nat) : LoopSound P0 G0 17 34 (sigPins zV.hd) (zV.L0 k) (loopOf Tryz.f50 0) := loop_rounds (T := T0) hm0 hT0 (env := fun k => (zV.env k)) (nh := 34) (pn := sigPins zV.hd) (L := fun k => []) (C := zV.C) (by kernel_rfl) (hd := zV.h0) (os := zV.o0) (by kernel_rfl) (by kernel_rfl) (by kernel_rfl) (g := fun k => (zV.L0 k).f) (fun k => loops_in zV.d trivial) (fun _ => rfl) (fun k x => zV.r0 k x) k
def zV.b (c0 : CO → Int → Int → Option ((Unit) ⊕ Bool)) (a0 : CO) : Option Bool := (Option.bind (c0 a0 ((((List.length a0) : Nat) : Int),(0 : Int)).1 ((((List.length a0) : Nat) : Int),(0 : Int)).2) fun y2 => (Sum.elim (fun y3 => (some true)) (fun y3 => (some y3)) y2))
def zV.f (k : Nat) a0 := zV.b (zV.l0 k) a0
noncomputable def zV.V a0 := lim fun k => zV.f k a0
theorem zV.v a0 {y} (h : zV.b zV.V0 a0 = some y) : zV.V a0 = some y := Le.v (by unfold zV.f zV.b;repeat (first | with_reducible first | exact Le.const | refine Le.bind ?_ fun _ => ?_ | refine Le.cond ?_ ?_ | refine Le.elim (fun _ => ?_) fun _ => ?_ | exact Le.of rfl)) h
theorem zV.e (k : Nat) (x : Tup (sigTys zV.hd)) : fnK T0 (zV.env k) [⟨0,zV.L0 k⟩] zV.C Tryz.f50 1 34 zV.hd zV.os x = zV.f k x := by kernel_rfl
def zV.fn (k : Nat) : Kn P0 G0 := ⟨50,1,34,zV.hd,1,zV.os,fun x => zV.f k x,contract (T := T0) (fn := Tryz.f50) hm0 hT0 (by kernel_rfl) (by kernel_rfl) (L := [⟨0,zV.L0 k⟩]) (C := zV.C) (by kernel_rfl) (by decide) rfl (by kernel_rfl) (loops_fn zV.d ⟨zV.s0 k,trivial⟩) (zV.e k),none⟩
def xv.hd : Sig := [⟨false,0,(.imm api_Term)⟩]
def xv.os : List Sig := [[⟨false,0,(.own 10 false 3 (.int .i64))⟩],[⟨false,0,.nilS⟩]]
def xv.C : List CutAt := []
def xv.env : List (Kn P0 G0) := []
theorem xv.d : distN (loopIds (Tryz.f51.body.getD .skip) 0) = true := by kernel_rfl
def xv.f (a0 : TE) : Option (LI ⊕ (Unit)) := (bif (a0.1 == (7 : Int)) then (some (Sum.inl (a0.2.1 :: ([] : LI)))) else (bif (a0.1 == (8 : Int)) then (some (Sum.inl (a0.2.1 :: ([] : LI)))) else (bif (a0.1 == (3 : Int)) then (some (Sum.inl (a0.2.1 :: (a0.2.2.1 :: ([] : LI))))) else (bif (a0.1 == (4 : Int)) then (some (Sum.inl (a0.2.1 :: (a0.2.2.1 :: ([] : LI))))) else (bif (a0.1 == (5 : Int)) then (some (Sum.inl (a0.2.1 :: (a0.2.2.1 :: ([] : LI))))) else (bif (a0.1 == (6 : Int)) then (some (Sum.inl (a0.2.1 :: (a0.2.2.1 :: ([] : LI))))) else (some (Sum.inl ([] : LI)))))))))
theorem xv.e (x : Tup (sigTys xv.hd)) : fnK T0 xv.env [] xv.C Tryz.f51 1 42 xv.hd xv.os x = xv.f x := by kernel_rfl
def xv.fn : Kn P0 G0 := ⟨51,1,42,xv.hd,1,xv.os,fun x => xv.f x,contract (T := T0) (fn := Tryz.f51) hm0 hT0 (by kernel_rfl) (by kernel_rfl) (L := []) (C := xv.C) (by kernel_rfl) (by decide) rfl (by kernel_rfl) (loops_fn xv.d trivial) (xv.e),none⟩
end
end Go.Proofs.YtlfcdmibknmjeaaGreatDoor.E
