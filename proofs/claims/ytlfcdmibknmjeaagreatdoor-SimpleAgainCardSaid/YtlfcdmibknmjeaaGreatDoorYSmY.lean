/- The card of SimpleAgain: of any Core and any number the law returns true and leaves what was there as it was. The condition: the package-level variable digits.tens reads as the program's text lays it; the card ties it to that text. -/
import Derived.Test.YtlfcdmibknmjeaaGreatDoorYSmR
import Derived.Test.YtlfcdmibknmjeaaGreatDoorYSmMd
namespace Go.Proofs.YtlfcdmibknmjeaaGreatDoor
set_option linter.unusedVariables false
set_option linter.unusedSimpArgs false
open Go.ChangeShapes Go.WideShapes Go.ChangeAt Go.RowKit
open E Ev
theorem struct_open {P:Program} {H:Type} {enc:TypeId × Value→H} {w:World} {base:Nat} {sp:Nat→Bool} {held:Bool} {t:Ty} {tid:TypeId} {cs:Array Value} {d:DataW H} {ps:List MemPlace} (hto:t.open_=true) (ht:tyChk P t none tid=true) (hag:t.isAgg=true)
 (hd:DataW.Trod enc P w base sp held tid (.agg cs) d ps):∃ y,IsImm w (Whole w) t y (.agg cs)∧Wf t y:=by
 obtain ⟨fuel,hf⟩:=hd
 obtain ⟨y,h1,h2⟩:=(trod_open t hto).1 tid fuel _ _ ht hf
 exact ⟨y,⟨_,h1,by unfold Ev.valOf;rw [hag];rfl⟩,h2⟩
theorem lb_of {v:RA} (h:Wf api_Rat v):Lb v.1.2.1∧Lb v.2.1:=by
 have lb:∀ l:List Int,Wf (.list (.int .u32)) l→Lb l:=fun l hl x hx=>by
  have hw:(Lit.int .u32 x).wf=true:=hl.2 x hx
  have e1:IntKind.u32.min=0:=rfl
  have e2:IntKind.u32.max=4294967295:=rfl
  simp [Lit.wf] at hw
  omega
 obtain ⟨⟨_,h1,_⟩,h2,_⟩:=h
 exact ⟨lb _ h1,lb _ h2⟩
theorem simpleAgain_any (W : World) (v u : Value) (l : CO) (hi : IsImm W (Whole W) (.list api_Term) l v) (hw : Wf (.list api_Term) l) (r : RA) (hr : IsImm W (Whole W) api_Rat r u) (hwr : Wf api_Rat r) (hG : GOk G0 W (Whole W)) :
 Calls Tryz.prog 5 #[v,u] W fun e w'=>e=.returned (.bool true)∧Below W.heap.size W w':=by
 obtain ⟨K,hK⟩:=(lim_iff.1 (again_v (limbs_of hw) r (lb_of hwr))).get
 exact law_calls (yq.fn K).holds (x:=(l,r)) (fr:=[.imm (.list api_Term) l,.imm api_Rat r]) (vs:=[v,u]) (hK K (Nat.le_refl _)) rfl rfl rfl (fun i=>match i with | 0=>hi | 1=>hr | _ + 2=>trivial) hG

set_option maxRecDepth 100000 in
theorem simpleAgain_lifted (os : Os) (started : os.Started) (H : Type) (enc : TypeId × Value → H) :
 ReturnsInHanded {} Tryz.checked os 5 .any (fun w args=>(Rows.simpleAgainSpec.pre enc Tryz.prog Tryz.f5 [] false w args∧laidMetH Tryz.prog tenLaid w)∧sizedMet enc Tryz.prog Tryz.f5 (OpenSpec.ofChange Rows.simpleAgainSpec) false w args)
  (Rows.simpleAgainSpec.post enc Tryz.prog Tryz.f5 false true false false):=by
 refine returnsInHanded_of_change_and (C:=Tryz.checked) (X:=(fun w _=>laidMetH Tryz.prog tenLaid w)) (fun _ _ _ hh h=>h.of_heap hh) own started (by kernel_rfl) Tryz.func5
  (ChangeSpec.witness_shaped (enc:=enc) (C:=Tryz.checked) (os:=os) (X:=(fun w _=>laidMetH Tryz.prog tenLaid w)) false (World.doorLaid Tryz.prog 400 os) #[.slice none 0 0,.agg #[.bool false,.slice none 0 0,.slice none 0 0]] 8 rfl (door_shaped os) (by kernel_rfl) (by kernel_rfl) (by kernel_rfl) (door_met os _)) ?_
 intro W base args ds gs before hval0 hW _ hsz0 hL _
 have hsz:(DataW.weightsEach Tryz.prog (Tryz.f5.params.toList ++ Rows.simpleAgainSpec.plain.varTypes Tryz.prog) (ds ++ gs)).all (· ≤ reachBytes)=true:=hsz0
 have hval:∀ (j:Nat) t v,Tryz.f5.params[j]?=some t→args[j]?=some v→Value.okWide Tryz.prog W .any base t v:=hval0
 have hW':=hW
 obtain ⟨p,q,hA0,hV,rfl,hfz,hnd⟩:=hW
 have hA:DataW.TrodAll enc Tryz.prog W 0 (fun _=>true) true Tryz.f5.params.toList args.toList ds p:=hA0
 rw [Tryz.params5] at hA hval hsz
 obtain ⟨v0,vs0,d0,ds0,p0,q0,hargs,rfl,rfl,h0,r0⟩:=trodAll_cons hA
 obtain ⟨v1,vs1,d1,ds1,p1,q1,rfl,rfl,rfl,h1,r1⟩:=trodAll_cons r0
 obtain ⟨rfl,rfl,rfl⟩:=trodAll_nil r1
 obtain rfl:args=#[v0,v1]:=by cases args;simp_all
 obtain ⟨rfl,rfl⟩:=trodVars_none hV
 have k0:=h0
 have lt0:∀ x ∈ p0,x.block < W.heap.size:=by obtain ⟨m,hm⟩:=k0;exact DataW.trod_lt m _ _ _ hm
 obtain ⟨A0,n0,c0,rfl⟩:=okWide_slice Tryz.underlying23 (hval 0 23 v0 rfl rfl)
 obtain ⟨y0,i0,w0⟩:=row_open (t:=.list api_Term) (by kernel_rfl) (by kernel_rfl) rfl h0 rfl
 have k1:=h1
 have lt1:∀ x ∈ p1,x.block < W.heap.size:=by obtain ⟨m,hm⟩:=k1;exact DataW.trod_lt m _ _ _ hm
 obtain ⟨c1,rfl,_⟩:=okWide_struct Tryz.underlying40 (hval 1 40 v1 rfl rfl)
 obtain ⟨y1,i1,w1⟩:=struct_open (t:=api_Rat) (by kernel_rfl) (by kernel_rfl) rfl h1
 have hG:=glob_of_laid hL
 clear hA0 hval0 hsz0 hsz
 refine (simpleAgain_any W _ _ y0 i0 w0 y1 i1 w1 hG).mono fun e W' ⟨he,bel⟩=>?_
 subst he
 exact ⟨_,rfl,_,_,_,[],_,[],hW',trodAll_mk1 (shut_bool Tryz.underlying4 _),(trodAll_cons_mk (Below.trod laidOut (by kernel_rfl) (of_decide_eq_true (by kernel_rfl)) k0 bel lt0) (trodAll_cons_mk (Below.trod laidOut (by kernel_rfl) (of_decide_eq_true (by kernel_rfl)) k1 bel lt1) trodAll_mk0)),rfl,bel.frame _,fun h=>by cases h⟩
theorem simpleAgain_holds : Rows.SimpleAgainSaid :=
 OpenClaim.holds_of_wide 5 Tryz.f5 rfl rfl rfl rfl rfl rfl rfl ⟨rfl,rfl,rfl,rfl,rfl⟩ rfl rfl rfl rfl rfl (by kernel_rfl) Tryz.func5 (by kernel_rfl)
  (of_decide_eq_true (by kernel_rfl)) (by unfold Func.isWrapper;first | (rw [if_pos (by decide +kernel)];kernel_rfl) | (rw [if_neg (by decide +kernel)];exact ⟨rfl,rfl⟩))
  (fun os started H enc _=>simpleAgain_lifted os started H enc)
theorem simpleAgainCard_holds : Rows.SimpleAgainCardSaid :=
 Claim7.holds_tied_plain_at .later [] [.data] true (true, "6937648df337bbbdcbce81f5fe1c959187353749f7b56bc389a8aa2cd6c2aaee") false
  simpleAgain_holds (fun _ h=>by cases h) (by kernel_rfl) (fun _ h=>by cases h) simpleAgain_row_tie rfl ⟨rfl,rfl⟩ (by kernel_rfl) rfl
  (fun f fn hf hfn=>by
   obtain rfl : f = 5 := Option.some.inj ((show Tryz.prog.funcNamed "steelyard/steelyardlaw22.SimpleAgain" = some 5 by kernel_rfl).symm.trans hf) |>.symm
   obtain rfl:fn=Tryz.f5:=(Option.some.inj (Tryz.func5.symm.trans hfn)).symm
   exact ⟨by kernel_rfl,fun j t ht=>by
    rw [Tryz.params5] at ht
    have hm:t ∈ [23,40]:=by simpa using Array.mem_of_getElem? ht
    have hall:([23,40].all fun u=>!Tryz.prog.wantsStandIn u)=true:=by kernel_rfl
    exact (show Tryz.prog.wantsStandIn t=false by simpa using List.all_eq_true.1 hall t hm)⟩)
  (by kernel_rfl)
end Go.Proofs.YtlfcdmibknmjeaaGreatDoor
