import Derived.Test.YtlfcdmibknmjeaaGreatDoorYSmMa
section
namespace Go.Proofs.YtlfcdmibknmjeaaGreatDoor.E
open Go Go.Proofs.YtlfcdmibknmjeaaGreatDoor.Ev
set_option linter.unusedSimpArgs false
noncomputable section
def zo (C:CO) (a b:Int):Option Int:=bif isV C a 0 then some a else bif isV C b 0 then some b else bif isV C a 1 then some b else bif isV C b 1 then some a else none
def mulT (C:CO) (a b:Int):CO × Int :=
 match bothS mulR C a b with
 | some x=>litS C x
 | none=>match zo C a b with
  | some i=>(C,i)
  | none =>
   if _h:isL C a=true∧tk (tI C b)=5∧isL C (ta (tI C b))=true∧(mulR (tv (tI C a)) (tv (tI C (ta (tI C b))))).2=0∧0 ≤ tb (tI C b)∧tb (tI C b) < b then
    mulT (litS C (mulR (tv (tI C a)) (tv (tI C (ta (tI C b))))).1).1 (litS C (mulR (tv (tI C a)) (tv (tI C (ta (tI C b))))).1).2 (tb (tI C b))
   else putS C (mkT 5 a b 0 R0)
termination_by b.toNat
decreasing_by omega
def mulS (C:CO) (a b:Int):CO × Int:=bif isL C b && !isL C a then mulT C b a else mulT C a b
theorem bind_eta {α β:Type} (o:Option (α × β)):(Option.bind o fun y=>some (y.1,y.2))=o:=by cases o <;> rfl
theorem bind_eta3 {α β γ:Type} (o:Option (α × β × γ)):(Option.bind o fun y=>some (y.1,(y.2.1,y.2.2)))=o:=by cases o <;> rfl
theorem mloop {C:CO} (h:Inv C) (m:MP) {a b:Int} (ha:At C a) (hb:At C b) :
 zd.V0 C m a b [0,1] 2 0=some (match zo C a b with | some i=>Sum.inr (C,(m,i)) | none=>Sum.inl (C,(m,(a,b)))):=by
 have i0:=sis_v h m (i:=a) (v:=0) ha (by omega)
 have i1:=sis_v h m (i:=b) (v:=0) hb (by omega)
 have i2:=sis_v h m (i:=a) (v:=1) ha (by omega)
 have i3:=sis_v h m (i:=b) (v:=1) hb (by omega)
 have e3:zd.V0 C m a b [0,1] 2 2=some (Sum.inl (C,(m,(a,b)))):=zd.v0 _ _ _ _ _ _ _ rfl
 have e2:zd.V0 C m a b [0,1] 2 1=some (bif isV C a 1 then Sum.inr (C,(m,b)) else bif isV C b 1 then Sum.inr (C,(m,a)) else Sum.inl (C,(m,(a,b)))):=by
  refine zd.v0 _ _ _ _ _ _ _ ?_
  unfold zd.b0
  show (Option.bind (zQ.V C m a 1) fun y11=>Option.bind (zQ.V y11.1 y11.2.1 b 1) _)=_
  rw [i2]
  simp only [Option.bind_some]
  rw [i3]
  cases isV C a 1
  ·cases isV C b 1
   ·exact e3
   ·rfl
  ·cases isV C b 1 <;> rfl
 refine zd.v0 _ _ _ _ _ _ _ ?_
 unfold zd.b0
 show (Option.bind (zQ.V C m a 0) fun y11=>Option.bind (zQ.V y11.1 y11.2.1 b 0) _)=_
 rw [i0]
 simp only [Option.bind_some]
 rw [i1]
 unfold zo
 cases isV C a 0
 ·cases isV C b 0
  ·refine Eq.trans e2 ?_
   cases isV C a 1
   ·cases isV C b 1 <;> rfl
   ·rfl
  ·rfl
 ·cases isV C b 0 <;> rfl
theorem mbody {C:CO} (h:Inv C) {a b:Int} (ha:At C a) (hb:At C b) (hl:C.length < 1000000) :
 zd.b zr.V zd.V0 xp.V zk.V zl.V zd.V C (mapC C) a b=match bothS mulR C a b with
  | some x=>ans (litS C x)
  | none=>match zo C a b with
   | some i=>ans (C,i)
   | none=>bif isL C b && !isL C a then zd.V C (mapC C) b a else bif isL C a && ((tk (tI C b) == 5) && (isL C (ta (tI C b)) && ((mulR (tv (tI C a)) (tv (tI C (ta (tI C b))))).2 == 0))) then zd.V (litS C (mulR (tv (tI C a)) (tv (tI C (ta (tI C b))))).1).1 (mapC (litS C (mulR (tv (tI C a)) (tv (tI C (ta (tI C b))))).1).1) (litS C (mulR (tv (tI C a)) (tv (tI C (ta (tI C b))))).1).2 (tb (tI C b)) else ans (putS C (mkT 5 a b 0 R0)):=by
 unfold zd.b
 simp only
 rw [bothMul_v h ha hb hl]
 cases hbo:bothS mulR C a b with
 | some x=>rfl
 | none =>
  simp only [bothA,Option.bind_some,cond_false]
  rw [show zd.V0 C (mapC C) a b [0,1] ((([0,1]:List Int).length:Nat):Int) 0=_ from mloop h (mapC C) ha hb]
  simp only [Option.bind_some]
  cases hz:zo C a b with
  | some i=>rfl
  | none =>
   simp only [Sum.elim_inl]
   rw [number_is _ ha]
   simp only [Option.bind_some]
   rw [number_is _ hb]
   simp only [Option.bind_some]
   have hput:=sput_v h (GT_two (k:=5) (by omega) ha hb) hl
   have fin:(Option.bind (zl.V C (mapC C) (5,(a,(b,(0,(((false,([],())),([],())),())))))) fun y15=>some (y15.1,(y15.2.1,y15.2.2)))=ans (putS C (mkT 5 a b 0 R0)):=by
    rw [bind_eta3]
    exact hput
   obtain ⟨k1,k2⟩:=h.kids hb
   have tail:(Option.bind (Option.bind (bif decide ((0:Int) ≤ b∧b < ((C.length:Nat):Int)) then (bif isL C a then (bif ((rdL (Ty.zero api_Term) C b).1 == (5:Int)) then (Option.bind (zD.f C (mapC C) (rdL (Ty.zero api_Term) C b).2.1) fun y13=>(bif y13.2.2.2 then (Option.bind (xp.V (tv (tI C a)) y13.2.2.1) fun y14=>(bif (y14.2.2.2 == (0:Int)) then (Option.bind (zk.V y13.1 y13.2.1 ((y14.1,(y14.2.1,())),(y14.2.2.1,()))) fun y15=>(Option.bind (zd.V y15.1 y15.2.1 y15.2.2 (rdL (Ty.zero api_Term) C b).2.2.1) fun y16=>(some (Sum.inr (y16.1,(y16.2.1,y16.2.2)))))) else (some (Sum.inl (y13.1,(y13.2.1,(a,b))))))) else (some (Sum.inl (y13.1,(y13.2.1,(a,b))))))) else (some (Sum.inl (C,(mapC C,(a,b)))))) else (some (Sum.inl (C,(mapC C,(a,b)))))) else none) fun y13:((CO) × (MP) × Int × Int) ⊕ ((CO) × (MP) × Int)=>some y13) fun y13=>(Sum.elim (fun y14:(CO) × (MP) × Int × Int=>(Option.bind (zl.V y14.1 y14.2.1 ((5:Int),(y14.2.2.1,(y14.2.2.2,((0:Int),(((false,(([]:List Int),())),(([]:List Int),())),())))))) fun y15=>(some (y15.1,(y15.2.1,y15.2.2))))) (fun y14:(CO) × (MP) × Int=>(some (y14.1,(y14.2.1,y14.2.2)))) y13))
    = bif isL C a && ((tk (tI C b) == 5) && (isL C (ta (tI C b)) && ((mulR (tv (tI C a)) (tv (tI C (ta (tI C b))))).2 == 0))) then zd.V (litS C (mulR (tv (tI C a)) (tv (tI C (ta (tI C b))))).1).1 (mapC (litS C (mulR (tv (tI C a)) (tv (tI C (ta (tI C b))))).1).1) (litS C (mulR (tv (tI C a)) (tv (tI C (ta (tI C b))))).1).2 (tb (tI C b)) else ans (putS C (mkT 5 a b 0 R0)):=by
    rw [hb.d]
    cases hA:isL C a
    ·exact fin
    ·show (Option.bind (Option.bind (bif (tk (tI C b) == 5) then (Option.bind (zD.f C (mapC C) (ta (tI C b))) _) else _) _) _)=_
     by_cases c5:tk (tI C b)=5
     ·rw [show (tk (tI C b) == 5)=true by rw [beq_iff_eq];exact c5]
      have hk:=(k1 (by omega)).1
      simp only [cond_true]
      rw [number_is _ hk,Option.bind_some]
      cases hT:isL C (ta (tI C b))
      ·exact fin
      ·simp only [cond_true]
       have cA:=h.lit ha hA
       have cT:=h.lit hk hT
       rw [(mulR_v cA cT).1,Option.bind_some]
       show (Option.bind (Option.bind (bif ((mulR (tv (tI C a)) (tv (tI C (ta (tI C b))))).2 == 0) then _ else _) _) _)=_
       cases hE:((mulR (tv (tI C a)) (tv (tI C (ta (tI C b))))).2 == 0)
       ·exact fin
       ·have hc:CanR (mulR (tv (tI C a)) (tv (tI C (ta (tI C b))))).1:=ofR_can (by simpa [mulR] using hE)
        have hlit:=slit_v h hc hl
        simp only [cond_true,Bool.true_and]
        rw [show zk.V C (mapC C) (((fl (mulR (tv (tI C a)) (tv (tI C (ta (tI C b)))))).1,((fl (mulR (tv (tI C a)) (tv (tI C (ta (tI C b)))))).2.1,())),((fl (mulR (tv (tI C a)) (tv (tI C (ta (tI C b)))))).2.2.1,()))=_ from hlit]
        unfold ans
        rw [Option.bind_some]
        show (Option.bind (Option.bind (Option.bind (zd.V _ _ _ (tb (tI C b))) _) _) _)=_
        generalize zd.V (litS C (mulR (tv (tI C a)) (tv (tI C (ta (tI C b))))).1).1 (mapC (litS C (mulR (tv (tI C a)) (tv (tI C (ta (tI C b))))).1).1) (litS C (mulR (tv (tI C a)) (tv (tI C (ta (tI C b))))).1).2 (tb (tI C b))=o
        cases o <;> rfl
     ·rw [show (tk (tI C b) == 5)=false by rw [beq_eq_false_iff_ne];exact c5]
      exact fin
   cases hB:isL C b
   ·simp only [cond_false,Option.bind_some,Sum.elim_inl,Bool.false_and]
    refine Eq.trans ?_ tail
    rw [show ∀ o:Option (((CO) × (MP) × Int × Int) ⊕ ((CO) × (MP) × Int)),(Option.bind o fun y=>some y)=o from fun o=>by cases o <;> rfl]
   ·cases hA:isL C a
    ·simp only [cond_true,Bool.not_false,Bool.and_self]
     generalize zd.V C (mapC C) b a=o
     cases o <;> rfl
    ·simp only [cond_true,cond_false,Option.bind_some,Sum.elim_inl,Bool.not_true,Bool.and_false]
     rw [hA] at tail
     refine Eq.trans ?_ tail
     rw [show ∀ o:Option (((CO) × (MP) × Int × Int) ⊕ ((CO) × (MP) × Int)),(Option.bind o fun y=>some y)=o from fun o=>by cases o <;> rfl]
     rfl
end
end Go.Proofs.YtlfcdmibknmjeaaGreatDoor.E
end
section
namespace Go.Proofs.YtlfcdmibknmjeaaGreatDoor.E
open Go Go.Proofs.YtlfcdmibknmjeaaGreatDoor.Ev
set_option linter.unusedSimpArgs false
noncomputable section
theorem rbody5 {C:CO} (h:Inv C) {a b:Int} (ha:At C a) (hb:At C b) (hl:C.length < 1000000) :
 zz.b xJ.V xS.V yk.V yY.V xk.V yZ.V xK.V xI.V yI.V zx.V yd.V zz.V C 5 a b=match bothS mulR C a b with
  | some x=>some (litS C x)
  | none=>match zo C a b with
   | some i=>some (C,i)
   | none=>bif isL C b && !isL C a then zz.V C 5 b a else bif isL C a && ((tk (tI C b) == 5) && (isL C (ta (tI C b)) && ((mulR (tv (tI C a)) (tv (tI C (ta (tI C b))))).2 == 0))) then zz.V (litS C (mulR (tv (tI C a)) (tv (tI C (ta (tI C b))))).1).1 5 (litS C (mulR (tv (tI C a)) (tv (tI C (ta (tI C b))))).1).2 (tb (tI C b)) else some (putS C (mkT 5 a b 0 R0)):=by
 unfold zz.b
 rw [ha.d,hb.d,isLit_is ha]
 simp only [cond_true,Option.bind_some]
 rw [isLit_is hb]
 have first:(bif isL C a then Option.bind (some (C,isL C b)) (fun y10=>some (y10.1,(tv (tI C a),(tv (tI C b),((5:Int),(a,(b,y10.2))))))) else some (C,(tv (tI C a),(tv (tI C b),((5:Int),(a,(b,false)))))))=some (C,(tv (tI C a),(tv (tI C b),((5:Int),(a,(b,isL C a && isL C b)))))):=by cases isL C a <;> rfl
 have first':(bif isL C a then Option.bind (some (C,isL C b)) (fun y10=>some (y10.1,((rdL (Ty.zero api_Term) C a).2.2.2.2.1,((rdL (Ty.zero api_Term) C b).2.2.2.2.1,((5:Int),(a,(b,y10.2))))))) else some (C,((rdL (Ty.zero api_Term) C a).2.2.2.2.1,((rdL (Ty.zero api_Term) C b).2.2.2.2.1,((5:Int),(a,(b,false)))))))=some (C,(tv (tI C a),(tv (tI C b),((5:Int),(a,(b,isL C a && isL C b)))))):=first
 rw [first']
 have e3:((5:Int) == 3)=false:=rfl
 have e4:((5:Int) == 4)=false:=rfl
 have e5:((5:Int) == 5)=true:=rfl
 have e10:((1:Int) == 0)=false:=rfl
 simp only [Option.bind_some,e3,e4,e5,cond_false,cond_true]
 obtain ⟨k1,k2⟩:=h.kids hb
 have hput:=rput_v h (GT_two (k:=5) (by omega) ha hb) hl
 have fin:(Option.bind (zx.V C (5,(a,(b,(0,(((false,([],())),([],())),())))))) fun y12=>some (y12.1,y12.2))=some (putS C (mkT 5 a b 0 R0)):=by
  rw [bind_eta]
  exact hput
 cases hlits:(isL C a && isL C b)
 ·have hbo:bothS mulR C a b=none:=by unfold bothS;rw [hlits];rfl
  rw [hbo]
  simp only [cond_false,Option.bind_some,e10]
  rw [rlitIs_v h ha (v:=0) (by omega)]
  simp only [Option.bind_some]
  unfold zo
  cases z0:isV C a 0
  ·simp only [cond_false]
   rw [rlitIs_v h hb (v:=0) (by omega)]
   simp only [Option.bind_some]
   cases z1:isV C b 0
   ·simp only [cond_false]
    rw [rlitIs_v h ha (v:=1) (by omega)]
    simp only [Option.bind_some]
    cases z2:isV C a 1
    ·simp only [cond_false]
     rw [rlitIs_v h hb (v:=1) (by omega)]
     simp only [Option.bind_some]
     cases z3:isV C b 1
     ·simp only [cond_false]
      rw [isLit_is hb]
      simp only [Option.bind_some]
      cases hB3:isL C b
      ·simp only [cond_false,Option.bind_some,Sum.elim_inl,Bool.false_and]
       rw [hb.d]
       simp only [cond_true]
       rw [isLit_is ha]
       simp only [Option.bind_some]
       cases hA2:isL C a
       ·exact fin
       ·show (Option.bind (Option.bind (bif (tk (tI C b) == 5) then (Option.bind (xt.f C (ta (tI C b))) _) else _) _) _)=_
        by_cases c5:tk (tI C b)=5
        ·rw [show (tk (tI C b) == 5)=true by rw [beq_iff_eq];exact c5]
         have hk:=(k1 (by omega)).1
         simp only [cond_true]
         rw [isLit_is hk]
         simp only [Option.bind_some]
         cases hT:isL C (ta (tI C b))
         ·exact fin
         ·simp only [cond_true,Bool.true_and]
          have cA2:=h.lit ha hA2
          have cT:=h.lit hk hT
          have hkd:decide ((0 ≤ (rdL (Ty.zero api_Term) C b).2.1)∧((rdL (Ty.zero api_Term) C b).2.1 < ((C.length:Nat):Int)))=true:=hk.d
          rw [hkd]
          have hm:xK.V (tv (tI C a)) (rdL (Ty.zero api_Term) C (rdL (Ty.zero api_Term) C b).2.1).2.2.2.2.1=some (fl (mulR (tv (tI C a)) (tv (tI C (ta (tI C b)))))):=(mulR_v cA2 cT).2
          rw [hm]
          simp only [cond_true,Option.bind_some]
          cases hE2:((mulR (tv (tI C a)) (tv (tI C (ta (tI C b))))).2 == 0)
          ·have hE2':((fl (mulR (tv (tI C a)) (tv (tI C (ta (tI C b)))))).2.2.2 == 0)=false:=hE2
           rw [hE2']
           exact fin
          ·have hE2':((fl (mulR (tv (tI C a)) (tv (tI C (ta (tI C b)))))).2.2.2 == 0)=true:=hE2
           have hc2:CanR (mulR (tv (tI C a)) (tv (tI C (ta (tI C b))))).1:=ofR_can (by simpa [mulR] using hE2)
           rw [hE2']
           simp only [cond_true]
           rw [show yk.V C (((fl (mulR (tv (tI C a)) (tv (tI C (ta (tI C b)))))).1,((fl (mulR (tv (tI C a)) (tv (tI C (ta (tI C b)))))).2.1,())),((fl (mulR (tv (tI C a)) (tv (tI C (ta (tI C b)))))).2.2.1,()))=_ from rlit_v h hc2 hl]
           simp only [Option.bind_some]
           show (Option.bind (Option.bind (zz.V (litS C (mulR (tv (tI C a)) (tv (tI C (ta (tI C b))))).1).1 5 (litS C (mulR (tv (tI C a)) (tv (tI C (ta (tI C b))))).1).2 (tb (tI C b))) _) _)=_
           generalize zz.V (litS C (mulR (tv (tI C a)) (tv (tI C (ta (tI C b))))).1).1 5 (litS C (mulR (tv (tI C a)) (tv (tI C (ta (tI C b))))).1).2 (tb (tI C b))=o
           cases o <;> rfl
        ·rw [show (tk (tI C b) == 5)=false by rw [beq_eq_false_iff_ne];exact c5]
         exact fin
      ·simp only [cond_true]
       rw [isLit_is ha]
       simp only [Option.bind_some]
       cases hA3:isL C a
       ·simp only [Bool.not_false,cond_true,Bool.and_self]
        generalize zz.V C 5 b a=o
        cases o <;> rfl
       ·simp only [Bool.not_true,cond_false,Option.bind_some,Sum.elim_inl,Bool.and_false]
        rw [← hA3]
        rw [hb.d]
        simp only [cond_true]
        rw [isLit_is ha]
        simp only [Option.bind_some]
        cases hA2:isL C a
        ·exact fin
        ·show (Option.bind (Option.bind (bif (tk (tI C b) == 5) then (Option.bind (xt.f C (ta (tI C b))) _) else _) _) _)=_
         by_cases c5:tk (tI C b)=5
         ·rw [show (tk (tI C b) == 5)=true by rw [beq_iff_eq];exact c5]
          have hk:=(k1 (by omega)).1
          simp only [cond_true]
          rw [isLit_is hk]
          simp only [Option.bind_some]
          cases hT:isL C (ta (tI C b))
          ·exact fin
          ·simp only [cond_true,Bool.true_and]
           have cA2:=h.lit ha hA2
           have cT:=h.lit hk hT
           have hkd:decide ((0 ≤ (rdL (Ty.zero api_Term) C b).2.1)∧((rdL (Ty.zero api_Term) C b).2.1 < ((C.length:Nat):Int)))=true:=hk.d
           rw [hkd]
           have hm:xK.V (tv (tI C a)) (rdL (Ty.zero api_Term) C (rdL (Ty.zero api_Term) C b).2.1).2.2.2.2.1=some (fl (mulR (tv (tI C a)) (tv (tI C (ta (tI C b)))))):=(mulR_v cA2 cT).2
           rw [hm]
           simp only [cond_true,Option.bind_some]
           cases hE2:((mulR (tv (tI C a)) (tv (tI C (ta (tI C b))))).2 == 0)
           ·have hE2':((fl (mulR (tv (tI C a)) (tv (tI C (ta (tI C b)))))).2.2.2 == 0)=false:=hE2
            rw [hE2']
            exact fin
           ·have hE2':((fl (mulR (tv (tI C a)) (tv (tI C (ta (tI C b)))))).2.2.2 == 0)=true:=hE2
            have hc2:CanR (mulR (tv (tI C a)) (tv (tI C (ta (tI C b))))).1:=ofR_can (by simpa [mulR] using hE2)
            rw [hE2']
            simp only [cond_true]
            rw [show yk.V C (((fl (mulR (tv (tI C a)) (tv (tI C (ta (tI C b)))))).1,((fl (mulR (tv (tI C a)) (tv (tI C (ta (tI C b)))))).2.1,())),((fl (mulR (tv (tI C a)) (tv (tI C (ta (tI C b)))))).2.2.1,()))=_ from rlit_v h hc2 hl]
            simp only [Option.bind_some]
            show (Option.bind (Option.bind (zz.V (litS C (mulR (tv (tI C a)) (tv (tI C (ta (tI C b))))).1).1 5 (litS C (mulR (tv (tI C a)) (tv (tI C (ta (tI C b))))).1).2 (tb (tI C b))) _) _)=_
            generalize zz.V (litS C (mulR (tv (tI C a)) (tv (tI C (ta (tI C b))))).1).1 5 (litS C (mulR (tv (tI C a)) (tv (tI C (ta (tI C b))))).1).2 (tb (tI C b))=o
            cases o <;> rfl
         ·rw [show (tk (tI C b) == 5)=false by rw [beq_eq_false_iff_ne];exact c5]
          exact fin
     ·rfl
    ·rfl
   ·rfl
  ·rfl
 ·have hA:isL C a=true:=(Bool.and_eq_true _ _ ▸ hlits).1
  have hB:isL C b=true:=(Bool.and_eq_true _ _ ▸ hlits).2
  have cA:=h.lit ha hA
  have cB:=h.lit hb hB
  simp only [cond_true]
  rw [(mulR_v cA cB).2]
  simp only [Option.bind_some]
  cases hE:((mulR (tv (tI C a)) (tv (tI C b))).2 == 0)
  ·have hbo:bothS mulR C a b=none:=by unfold bothS;rw [hlits,hE];rfl
   have hE':((fl (mulR (tv (tI C a)) (tv (tI C b)))).2.2.2 == 0)=false:=hE
   rw [hbo,hE']
   simp only [cond_false]
   rw [rlitIs_v h ha (v:=0) (by omega)]
   simp only [Option.bind_some]
   unfold zo
   cases z0:isV C a 0
   ·simp only [cond_false]
    rw [rlitIs_v h hb (v:=0) (by omega)]
    simp only [Option.bind_some]
    cases z1:isV C b 0
    ·simp only [cond_false]
     rw [rlitIs_v h ha (v:=1) (by omega)]
     simp only [Option.bind_some]
     cases z2:isV C a 1
     ·simp only [cond_false]
      rw [rlitIs_v h hb (v:=1) (by omega)]
      simp only [Option.bind_some]
      cases z3:isV C b 1
      ·simp only [cond_false]
       rw [isLit_is hb]
       simp only [Option.bind_some]
       cases hB3:isL C b
       ·simp only [cond_false,Option.bind_some,Sum.elim_inl,Bool.false_and]
        rw [hb.d]
        simp only [cond_true]
        rw [isLit_is ha]
        simp only [Option.bind_some]
        cases hA2:isL C a
        ·exact fin
        ·show (Option.bind (Option.bind (bif (tk (tI C b) == 5) then (Option.bind (xt.f C (ta (tI C b))) _) else _) _) _)=_
         by_cases c5:tk (tI C b)=5
         ·rw [show (tk (tI C b) == 5)=true by rw [beq_iff_eq];exact c5]
          have hk:=(k1 (by omega)).1
          simp only [cond_true]
          rw [isLit_is hk]
          simp only [Option.bind_some]
          cases hT:isL C (ta (tI C b))
          ·exact fin
          ·simp only [cond_true,Bool.true_and]
           have cA2:=h.lit ha hA2
           have cT:=h.lit hk hT
           have hkd:decide ((0 ≤ (rdL (Ty.zero api_Term) C b).2.1)∧((rdL (Ty.zero api_Term) C b).2.1 < ((C.length:Nat):Int)))=true:=hk.d
           rw [hkd]
           have hm:xK.V (tv (tI C a)) (rdL (Ty.zero api_Term) C (rdL (Ty.zero api_Term) C b).2.1).2.2.2.2.1=some (fl (mulR (tv (tI C a)) (tv (tI C (ta (tI C b)))))):=(mulR_v cA2 cT).2
           rw [hm]
           simp only [cond_true,Option.bind_some]
           cases hE2:((mulR (tv (tI C a)) (tv (tI C (ta (tI C b))))).2 == 0)
           ·have hE2':((fl (mulR (tv (tI C a)) (tv (tI C (ta (tI C b)))))).2.2.2 == 0)=false:=hE2
            rw [hE2']
            exact fin
           ·have hE2':((fl (mulR (tv (tI C a)) (tv (tI C (ta (tI C b)))))).2.2.2 == 0)=true:=hE2
            have hc2:CanR (mulR (tv (tI C a)) (tv (tI C (ta (tI C b))))).1:=ofR_can (by simpa [mulR] using hE2)
            rw [hE2']
            simp only [cond_true]
            rw [show yk.V C (((fl (mulR (tv (tI C a)) (tv (tI C (ta (tI C b)))))).1,((fl (mulR (tv (tI C a)) (tv (tI C (ta (tI C b)))))).2.1,())),((fl (mulR (tv (tI C a)) (tv (tI C (ta (tI C b)))))).2.2.1,()))=_ from rlit_v h hc2 hl]
            simp only [Option.bind_some]
            show (Option.bind (Option.bind (zz.V (litS C (mulR (tv (tI C a)) (tv (tI C (ta (tI C b))))).1).1 5 (litS C (mulR (tv (tI C a)) (tv (tI C (ta (tI C b))))).1).2 (tb (tI C b))) _) _)=_
            generalize zz.V (litS C (mulR (tv (tI C a)) (tv (tI C (ta (tI C b))))).1).1 5 (litS C (mulR (tv (tI C a)) (tv (tI C (ta (tI C b))))).1).2 (tb (tI C b))=o
            cases o <;> rfl
         ·rw [show (tk (tI C b) == 5)=false by rw [beq_eq_false_iff_ne];exact c5]
          exact fin
       ·simp only [cond_true]
        rw [isLit_is ha]
        simp only [Option.bind_some]
        cases hA3:isL C a
        ·simp only [Bool.not_false,cond_true,Bool.and_self]
         generalize zz.V C 5 b a=o
         cases o <;> rfl
        ·simp only [Bool.not_true,cond_false,Option.bind_some,Sum.elim_inl,Bool.and_false]
         rw [← hA3]
         rw [hb.d]
         simp only [cond_true]
         rw [isLit_is ha]
         simp only [Option.bind_some]
         cases hA2:isL C a
         ·exact fin
         ·show (Option.bind (Option.bind (bif (tk (tI C b) == 5) then (Option.bind (xt.f C (ta (tI C b))) _) else _) _) _)=_
          by_cases c5:tk (tI C b)=5
          ·rw [show (tk (tI C b) == 5)=true by rw [beq_iff_eq];exact c5]
           have hk:=(k1 (by omega)).1
           simp only [cond_true]
           rw [isLit_is hk]
           simp only [Option.bind_some]
           cases hT:isL C (ta (tI C b))
           ·exact fin
           ·simp only [cond_true,Bool.true_and]
            have cA2:=h.lit ha hA2
            have cT:=h.lit hk hT
            have hkd:decide ((0 ≤ (rdL (Ty.zero api_Term) C b).2.1)∧((rdL (Ty.zero api_Term) C b).2.1 < ((C.length:Nat):Int)))=true:=hk.d
            rw [hkd]
            have hm:xK.V (tv (tI C a)) (rdL (Ty.zero api_Term) C (rdL (Ty.zero api_Term) C b).2.1).2.2.2.2.1=some (fl (mulR (tv (tI C a)) (tv (tI C (ta (tI C b)))))):=(mulR_v cA2 cT).2
            rw [hm]
            simp only [cond_true,Option.bind_some]
            cases hE2:((mulR (tv (tI C a)) (tv (tI C (ta (tI C b))))).2 == 0)
            ·have hE2':((fl (mulR (tv (tI C a)) (tv (tI C (ta (tI C b)))))).2.2.2 == 0)=false:=hE2
             rw [hE2']
             exact fin
            ·have hE2':((fl (mulR (tv (tI C a)) (tv (tI C (ta (tI C b)))))).2.2.2 == 0)=true:=hE2
             have hc2:CanR (mulR (tv (tI C a)) (tv (tI C (ta (tI C b))))).1:=ofR_can (by simpa [mulR] using hE2)
             rw [hE2']
             simp only [cond_true]
             rw [show yk.V C (((fl (mulR (tv (tI C a)) (tv (tI C (ta (tI C b)))))).1,((fl (mulR (tv (tI C a)) (tv (tI C (ta (tI C b)))))).2.1,())),((fl (mulR (tv (tI C a)) (tv (tI C (ta (tI C b)))))).2.2.1,()))=_ from rlit_v h hc2 hl]
             simp only [Option.bind_some]
             show (Option.bind (Option.bind (zz.V (litS C (mulR (tv (tI C a)) (tv (tI C (ta (tI C b))))).1).1 5 (litS C (mulR (tv (tI C a)) (tv (tI C (ta (tI C b))))).1).2 (tb (tI C b))) _) _)=_
             generalize zz.V (litS C (mulR (tv (tI C a)) (tv (tI C (ta (tI C b))))).1).1 5 (litS C (mulR (tv (tI C a)) (tv (tI C (ta (tI C b))))).1).2 (tb (tI C b))=o
             cases o <;> rfl
          ·rw [show (tk (tI C b) == 5)=false by rw [beq_eq_false_iff_ne];exact c5]
           exact fin
      ·rfl
     ·rfl
    ·rfl
   ·rfl
  ·have hbo:bothS mulR C a b=some (mulR (tv (tI C a)) (tv (tI C b))).1:=by unfold bothS;rw [hlits,hE];rfl
   have hE':((fl (mulR (tv (tI C a)) (tv (tI C b)))).2.2.2 == 0)=true:=hE
   have hc:CanR (mulR (tv (tI C a)) (tv (tI C b))).1:=ofR_can (by simpa [mulR] using hE)
   rw [hbo,hE']
   simp only [cond_true]
   rw [show yk.V C (((fl (mulR (tv (tI C a)) (tv (tI C b)))).1,((fl (mulR (tv (tI C a)) (tv (tI C b)))).2.1,())),((fl (mulR (tv (tI C a)) (tv (tI C b)))).2.2.1,()))=_ from rlit_v h hc hl]
   rfl
end
end Go.Proofs.YtlfcdmibknmjeaaGreatDoor.E
end
section
namespace Go.Proofs.YtlfcdmibknmjeaaGreatDoor.E
open Go Go.Proofs.YtlfcdmibknmjeaaGreatDoor.Ev
set_option linter.unusedSimpArgs false
noncomputable section
def nl (C:CO) (k:Nat):Nat:=nlA (C.take k)
theorem nl_ext {C D:CO} (h:Ext C D) {k:Nat} (hk:k ≤ C.length):nl D k=nl C k:=by
 obtain ⟨l,rfl⟩:=h
 unfold nl
 rw [List.take_append_of_le_length hk]
theorem nl_le (C:CO) {j k:Nat} (h:j ≤ k):nl C j ≤ nl C k:=by
 unfold nl nlA
 have:C.take j=(C.take k).take j:=by rw [List.take_take,Nat.min_eq_left h]
 rw [this]
 exact (List.take_sublist _ _).countP_le
theorem nl_all (C:CO) (k:Nat):nl C k ≤ nlA C:=(List.take_sublist _ _).countP_le
theorem nl_step {C:CO} {i:Int} (hi:At C i) (hk:tk (tI C i) ≠ 1) {j:Nat} (hj:j ≤ i.toNat):nl C j + 1 ≤ nl C (i.toNat + 1):=by
 have hi0:=hi.1
 have hi1:=hi.2
 have h1:=nl_le C hj
 have h2:nl C (i.toNat + 1)=nl C i.toNat + 1:=by
  unfold nl nlA
  rw [List.take_succ_eq_append_getElem (by omega),List.countP_append]
  congr 1
  have e:C[i.toNat]'(by omega)=tI C i:=by rw [← tI_get (by omega),show ((i.toNat:Nat):Int)=i by omega]
  rw [e,List.countP_cons_of_pos (by
   have:(tk (tI C i) == 1)=false:=by rw [beq_eq_false_iff_ne];exact hk
   show (!(tk (tI C i) == 1))=true
   rw [this];rfl)]
  rfl
 omega
theorem litS_ok {C:CO} (h:Inv C) {x:RA} (hx:CanR x):Ok C (litS C x)∧isL (litS C x).1 (litS C x).2=true∧(litS C x).1.length ≤ C.length + 1∧nlA (litS C x).1 ≤ nlA C∧tv (tI (litS C x).1 (litS C x).2)=x:=by
 obtain ⟨h1,h2,h3,h4⟩:=putS_ok h (GT_lit hx)
 have h2':tI (litS C x).1 (litS C x).2=mkT 1 0 0 0 x:=h2
 refine ⟨h1,?_,h3,?_,by rw [h2'];rfl⟩
 ·unfold isL
  rw [h2']
  rfl
 ·rw [if_pos (show tk (mkT 1 0 0 0 x)=1 from rfl),Nat.add_zero] at h4
  exact h4
theorem mulT_v:∀ (n:Nat) {C:CO} {a b:Int},b.toNat < n→Inv C→At C a→At C b→C.length + b.toNat < 900000→(isL C b && !isL C a)=false →
 (zd.V C (mapC C) a b=ans (mulT C a b)∧zz.V C 5 a b=some (mulT C a b))∧Ok C (mulT C a b)∧(mulT C a b).1.length ≤ C.length + nl C (b.toNat + 1) + 1∧nlA (mulT C a b).1 ≤ nlA C + 1:=by
 intro n
 induction n with
 | zero=>intro C a b h0;omega
 | succ n ih =>
  intro C a b hbn h ha hb hl hns
  have mb:=mbody h ha hb (by omega)
  have rb:=rbody5 h ha hb (by omega)
  rw [mulT]
  cases hbo:bothS mulR C a b with
  | some x =>
   rw [hbo] at mb rb
   obtain ⟨_,_,h3,h4⟩:=bothS_some hbo
   have hx:CanR x:=by rw [h4];exact ofR_can h3
   obtain ⟨o1,o2,o3,o4,o5⟩:=litS_ok h hx
   exact ⟨⟨zd.v _ _ _ _ mb,zz.v _ _ _ _ rb⟩,o1,Nat.le_trans o3 (by omega),Nat.le_trans o4 (by omega)⟩
  | none =>
   rw [hbo] at mb rb
   cases hz:zo C a b with
   | some i =>
    simp only [hz] at mb rb
    have hi:i=a ∨ i=b:=by
     unfold zo at hz
     cases h0:isV C a 0 <;> rw [h0] at hz
     ·cases h1:isV C b 0 <;> rw [h1] at hz
      ·cases h2:isV C a 1 <;> rw [h2] at hz
       ·cases h3:isV C b 1 <;> rw [h3] at hz
        ·cases hz
        ·exact .inl (Option.some.inj hz).symm
       ·exact .inr (Option.some.inj hz).symm
      ·exact .inr (Option.some.inj hz).symm
     ·exact .inl (Option.some.inj hz).symm
    refine ⟨⟨zd.v _ _ _ _ mb,zz.v _ _ _ _ rb⟩,⟨h,.refl C,?_⟩,by show C.length ≤ _;omega,by show nlA C ≤ _;omega⟩
    rcases hi with rfl | rfl
    ·exact ha
    ·exact hb
   | none =>
    simp only [hz,hns,cond_false] at mb rb
    obtain ⟨k1,k2⟩:=h.kids hb
    by_cases hc:isL C a=true∧tk (tI C b)=5∧isL C (ta (tI C b))=true∧(mulR (tv (tI C a)) (tv (tI C (ta (tI C b))))).2=0∧0 ≤ tb (tI C b)∧tb (tI C b) < b
    ·simp only
     rw [dif_pos hc]
     obtain ⟨c1,c2,c3,c4,c5,c6⟩:=hc
     have hcond:(isL C a && ((tk (tI C b) == 5) && (isL C (ta (tI C b)) && ((mulR (tv (tI C a)) (tv (tI C (ta (tI C b))))).2 == 0))))=true:=by rw [c1,c2,c3,c4];rfl
     rw [hcond] at mb rb
     have hx:CanR (mulR (tv (tI C a)) (tv (tI C (ta (tI C b))))).1:=ofR_can c4
     generalize (mulR (tv (tI C a)) (tv (tI C (ta (tI C b))))).1=x at *
     obtain ⟨⟨o1,o2,o3⟩,o4,o5,o6,o7⟩:=litS_ok h hx
     obtain ⟨kb,kb2⟩:=k2 (by omega)
     have hb0:=hb.1
     have hb1:=hb.2
     obtain ⟨⟨i1,i2⟩,⟨i3,i4,i5⟩,i6,i7⟩:=ih (C:=(litS C x).1) (a:=(litS C x).2) (b:=tb (tI C b)) (by omega) o1 o3 (o2.at kb) (by omega) (by rw [o4];simp)
     have e1:nl (litS C x).1 ((tb (tI C b)).toNat + 1)=nl C ((tb (tI C b)).toNat + 1):=nl_ext o2 (by have:=kb.2;omega)
     have e2:=nl_step hb (by omega) (j:=(tb (tI C b)).toNat + 1) (by omega)
     exact ⟨⟨zd.v _ _ _ _ (mb.trans i1),zz.v _ _ _ _ (rb.trans i2)⟩,⟨i3,o2.trans i4,i5⟩,by omega,by omega⟩
    ·simp only
     rw [dif_neg hc]
     have hcond:(isL C a && ((tk (tI C b) == 5) && (isL C (ta (tI C b)) && ((mulR (tv (tI C a)) (tv (tI C (ta (tI C b))))).2 == 0))))=false:=by
      cases hh:(isL C a && ((tk (tI C b) == 5) && (isL C (ta (tI C b)) && ((mulR (tv (tI C a)) (tv (tI C (ta (tI C b))))).2 == 0)))) with
      | false=>rfl
      | true =>
       simp only [Bool.and_eq_true,beq_iff_eq] at hh
       obtain ⟨kb,kb2⟩:=k2 (by omega)
       exact absurd ⟨hh.1,hh.2.1,hh.2.2.1,hh.2.2.2,kb.1,kb2⟩ hc
     rw [hcond] at mb rb
     obtain ⟨p1,p2,p3,p4⟩:=putS_ok h (GT_two (k:=5) (by omega) ha hb)
     refine ⟨⟨zd.v _ _ _ _ mb,zz.v _ _ _ _ rb⟩,p1,by omega,Nat.le_trans p4 ?_⟩
     split <;> omega
theorem mulS_v {C:CO} (h:Inv C) {a b:Int} (ha:At C a) (hb:At C b) (hl:C.length < 400000) :
 (zd.V C (mapC C) a b=ans (mulS C a b)∧zz.V C 5 a b=some (mulS C a b))∧Ok C (mulS C a b)∧(mulS C a b).1.length ≤ C.length + nlA C + 1∧nlA (mulS C a b).1 ≤ nlA C + 1:=by
 have ha0:=ha.1
 have ha1:=ha.2
 have hb0:=hb.1
 have hb1:=hb.2
 unfold mulS
 cases hs:(isL C b && !isL C a)
 ·obtain ⟨i1,i2,i3,i4⟩:=mulT_v (b.toNat + 1) (by omega) h ha hb (by omega) hs
  have:=nl_all C (b.toNat + 1)
  exact ⟨i1,i2,by show (mulT C a b).1.length ≤ _;omega,i4⟩
 ·have hB:isL C b=true:=by cases h1:isL C b <;> rw [h1] at hs <;> first | rfl | cases hs
  have hA:isL C a=false:=by cases h1:isL C a <;> rw [h1,hB] at hs <;> first | rfl | cases hs
  obtain ⟨i1,i2,i3,i4⟩:=mulT_v (a.toNat + 1) (by omega) h hb ha (by omega) (by rw [hA];rfl)
  have:=nl_all C (a.toNat + 1)
  refine ⟨?_,i2,by show (mulT C b a).1.length ≤ _;omega,i4⟩
  have mb:=mbody h ha hb (by omega)
  have rb:=rbody5 h ha hb (by omega)
  have hbo:bothS mulR C a b=none:=by unfold bothS;rw [hA];rfl
  have hbo':bothS mulR C b a=none:=by unfold bothS;rw [hA,Bool.and_false];rfl
  rw [hbo] at mb rb
  have za:∀ v,isV C a v=false:=fun v=>by unfold isV;rw [hA];rfl
  cases hz:zo C a b with
  | some i =>
   simp only [hz] at mb rb
   have hz':zo C b a=some i:=by
    unfold zo at hz ⊢
    rw [za,za] at hz ⊢
    cases h0:isV C b 0 <;> rw [h0] at hz
    ·cases h1:isV C b 1 <;> rw [h1] at hz
     ·cases hz
     ·exact hz
    ·exact hz
   have e:mulT C b a=(C,i):=by rw [mulT,hbo',hz']
   show zd.V C (mapC C) a b=ans (mulT C b a)∧zz.V C 5 a b=some (mulT C b a)
   rw [e]
   exact ⟨zd.v _ _ _ _ mb,zz.v _ _ _ _ rb⟩
  | none =>
   simp only [hz,hs,cond_true] at mb rb
   exact ⟨zd.v _ _ _ _ (mb.trans i1.1),zz.v _ _ _ _ (rb.trans i1.2)⟩
end
end Go.Proofs.YtlfcdmibknmjeaaGreatDoor.E
end
section
namespace Go.Proofs.YtlfcdmibknmjeaaGreatDoor.E
open Go Go.Proofs.YtlfcdmibknmjeaaGreatDoor.Ev
set_option linter.unusedSimpArgs false
noncomputable section
def timesS (C:CO) (x:RA) (i:Int):CO × Int:=bif decide (rZ x=0) then litS C x else bif decide (rZ x=1) && decide (rD x=1) then (C,i) else mulS (litS C x).1 (litS C x).2 i
theorem cmpZ_0 (z:Int):(cmpZ z 0 == 0)=decide (z=0):=by
 unfold cmpZ
 by_cases h:z=0
 ·subst h;rfl
 ·rw [df' h,beq_eq_false_iff_ne]
  split
  ·omega
  ·split <;> omega
theorem stimes_v {C:CO} (h:Inv C) {x:RA} (hx:CanR x) {i:Int} (hi:At C i) (hl:C.length < 300000) :
 (zH.V C (mapC C) x i=ans (timesS C x i)∧yd.V C x i=some (timesS C x i))∧Ok C (timesS C x i)∧(timesS C x i).1.length ≤ C.length + nlA C + 2∧nlA (timesS C x i).1 ≤ nlA C + 1:=by
 obtain ⟨z,d,hc,rfl⟩:=hx
 have hx:CanR (R z d):=⟨z,d,hc,rfl⟩
 have w1:=rwhole_R (z:=1) (by omega) (by omega)
 have v1:=rrwhole_R (z:=1) (by omega) (by omega)
 have v0:=rrwhole_R (z:=0) (by omega) (by omega)
 have s1:=rsign_R hc
 have s2:=rrsign_R hc
 have q1:xb.V (R z d) (((tr (R 1 1)).1,((tr (R 1 1)).2.1,())),((tr (R 1 1)).2.2,()))=_:=rsame_R hc (can1 (v:=1) (by omega))
 have q2:xD.V (R z d) (((tr (R 1 1)).1,((tr (R 1 1)).2.1,())),((tr (R 1 1)).2.2,()))=_:=rrless_R hc (can1 (v:=1) (by omega))
 have q3:=cmp_uniq hc (can1 (v:=1) (by omega))
 have hlit:=slit_v h hx (by omega)
 have hrlit:=rlit_v h hx (by omega)
 obtain ⟨⟨o1,o2,o3⟩,o4,o5,o6,o7⟩:=litS_ok h hx
 obtain ⟨⟨m1,m2⟩,⟨m3,m4,m5⟩,m6,m7⟩:=mulS_v o1 o3 (o2.at hi) (by omega)
 unfold timesS
 rw [rZ_R,rD_R]
 by_cases hz:z=0
 ·have hd:d=1:=by
   have:=hc.2.1
   rw [hz] at this
   simpa using this
  subst hz hd
  refine ⟨⟨?_,?_⟩,⟨o1,o2,o3⟩,by show (litS C (R 0 1)).1.length ≤ _;omega,by show nlA (litS C (R 0 1)).1 ≤ _;omega⟩
  ·refine zH.v _ _ _ _ ?_
   unfold zH.b
   rw [s1,Option.bind_some,cmpZ_0]
   simp only [decide_true,cond_true]
   rw [hlit]
   rfl
  ·refine yd.v _ _ _ ?_
   unfold yd.b
   rw [s2,Option.bind_some,cmpZ_0]
   simp only [decide_true,cond_true]
   rw [v0,Option.bind_some]
   rw [show yk.V C (((tr (R 0 1)).1,((tr (R 0 1)).2.1,())),((tr (R 0 1)).2.2,()))=_ from hrlit]
   rfl
 ·rw [df' hz]
  simp only [cond_false]
  cases h1:(decide (z=1) && decide (d=1))
  ·refine ⟨⟨?_,?_⟩,⟨m3,o2.trans m4,m5⟩,by show (mulS (litS C (R z d)).1 (litS C (R z d)).2 i).1.length ≤ _;omega,by show nlA (mulS (litS C (R z d)).1 (litS C (R z d)).2 i).1 ≤ _;omega⟩
   ·refine zH.v _ _ _ _ ?_
    unfold zH.b
    rw [s1,Option.bind_some,cmpZ_0,df' hz]
    simp only [cond_false]
    rw [w1,Option.bind_some,q1,Option.bind_some,h1]
    simp only [cond_false]
    rw [hlit]
    unfold ans
    simp only [Option.bind_some]
    rw [m1,bind_eta3]
    rfl
   ·refine yd.v _ _ _ ?_
    unfold yd.b
    rw [s2,Option.bind_some,cmpZ_0,df' hz]
    simp only [cond_false]
    rw [v1,Option.bind_some,q2,Option.bind_some,q3,h1]
    simp only [cond_false]
    rw [hrlit,Option.bind_some]
    rw [m2,bind_eta]
  ·refine ⟨⟨?_,?_⟩,⟨h,.refl C,hi⟩,by show C.length ≤ _;omega,by show nlA C ≤ _;omega⟩
   ·refine zH.v _ _ _ _ ?_
    unfold zH.b
    rw [s1,Option.bind_some,cmpZ_0,df' hz]
    simp only [cond_false]
    rw [w1,Option.bind_some,q1,Option.bind_some,h1]
    rfl
   ·refine yd.v _ _ _ ?_
    unfold yd.b
    rw [s2,Option.bind_some,cmpZ_0,df' hz]
    simp only [cond_false]
    rw [v1,Option.bind_some,q2,Option.bind_some,q3,h1]
    rfl
theorem oft_ok {C:CO} (h:Inv C) {a:Int} (ha:At C a):CanR (oftS C a).1∧At C (oftS C a).2:=by
 unfold oftS
 obtain ⟨k1,k2⟩:=h.kids ha
 cases c7:(tk (tI C a) == 7)
 ·cases c5:((tk (tI C a) == 5) && isL C (ta (tI C a)))
  ·exact ⟨canR1 (by omega),ha⟩
  ·have c5':tk (tI C a)=5∧isL C (ta (tI C a))=true:=by
    rw [Bool.and_eq_true,beq_iff_eq] at c5
    exact c5
   exact ⟨h.lit (k1 (by omega)).1 c5'.2,(k2 (by omega)).1⟩
 ·have c7':tk (tI C a)=7:=by simpa using c7
  exact ⟨canR1 (by omega),(k1 (by omega)).1⟩
def likeB (f:RA→RA→RA × Int) (C:CO) (a b:Int):Bool:=((oftS C a).2 == (oftS C b).2) && (!(isL C (oftS C a).2) && ((f (oftS C a).1 (oftS C b).1).2 == 0))
def likeS (f:RA→RA→RA × Int) (C:CO) (a b:Int):CO × Int:=timesS C (f (oftS C a).1 (oftS C b).1).1 (oftS C a).2
theorem like_b {V:RA→RA→Option (Bool × List Int × List Int × Int)} {f:RA→RA→RA × Int} (hf:Is V f) {C:CO} (h:Inv C) {a b:Int} (ha:At C a) (hb:At C b) (hl:C.length < 300000) :
 zw.b zU.V V zH.V C (mapC C) a b=bif likeB f C a b then some ((likeS f C a b).1,(mapC (likeS f C a b).1,((likeS f C a b).2,true))) else some (C,(mapC C,(0,false))):=by
 unfold zw.b likeB
 obtain ⟨c1,a1⟩:=oft_ok h ha
 obtain ⟨c2,a2⟩:=oft_ok h hb
 simp only
 rw [soften_v h _ ha,Option.bind_some]
 simp only
 rw [soften_v h _ hb,Option.bind_some]
 simp only
 cases e1:((oftS C a).2 == (oftS C b).2)
 ·rw [show ((oftS C a).2 != (oftS C b).2)=true by rw [bne,e1];rfl]
  rfl
 ·rw [show ((oftS C a).2 != (oftS C b).2)=false by rw [bne,e1];rfl,a1.d]
  simp only [cond_false,cond_true,Bool.true_and]
  show (bif isL C (oftS C a).2 then _ else _)=_
  cases e2:isL C (oftS C a).2
  ·simp only [cond_false,Bool.not_false,Bool.true_and]
   have hv:=hf.1 _ _ c1 c2
   rw [show V (((tr (oftS C a).1).1,((tr (oftS C a).1).2.1,())),((tr (oftS C a).1).2.2,())) (((tr (oftS C b).1).1,((tr (oftS C b).1).2.1,())),((tr (oftS C b).1).2.2,()))=_ from hv,Option.bind_some]
   show (bif ((f (oftS C a).1 (oftS C b).1).2 != 0) then _ else _)=_
   cases e3:((f (oftS C a).1 (oftS C b).1).2 == 0)
   ·rw [show ((f (oftS C a).1 (oftS C b).1).2 != 0)=true by rw [bne,e3];rfl]
    rfl
   ·rw [show ((f (oftS C a).1 (oftS C b).1).2 != 0)=false by rw [bne,e3];rfl]
    have hc:=hf.2 _ _ (show (f (oftS C a).1 (oftS C b).1).2=0 by simpa using e3)
    obtain ⟨⟨t1,_⟩,_⟩:=stimes_v h hc a1 hl
    simp only [cond_false,cond_true]
    rw [show zH.V C (mapC C) (((fl (f (oftS C a).1 (oftS C b).1)).1,((fl (f (oftS C a).1 (oftS C b).1)).2.1,())),((fl (f (oftS C a).1 (oftS C b).1)).2.2.1,())) (oftS C a).2=_ from t1]
    rfl
  ·rfl
theorem likeAdd_v {C:CO} (h:Inv C) {a b:Int} (ha:At C a) (hb:At C b) (hl:C.length < 300000):zw.V C (mapC C) a b=bif likeB addR C a b then some ((likeS addR C a b).1,(mapC (likeS addR C a b).1,((likeS addR C a b).2,true))) else some (C,(mapC C,(0,false))):=by
 have k:=like_b Is.add h ha hb hl
 cases hh:likeB addR C a b <;> rw [hh] at k <;> exact zw.v _ _ _ _ k
theorem likeSub_v {C:CO} (h:Inv C) {a b:Int} (ha:At C a) (hb:At C b) (hl:C.length < 300000):zy.V C (mapC C) a b=bif likeB subR C a b then some ((likeS subR C a b).1,(mapC (likeS subR C a b).1,((likeS subR C a b).2,true))) else some (C,(mapC C,(0,false))):=by
 have k:=like_b Is.sub h ha hb hl
 cases hh:likeB subR C a b <;> rw [hh] at k <;> exact zy.v _ _ _ _ k
theorem rbody3 {C:CO} (h:Inv C) {a b:Int} (ha:At C a) (hb:At C b) (hl:C.length < 300000) :
 zz.b xJ.V xS.V yk.V yY.V xk.V yZ.V xK.V xI.V yI.V zx.V yd.V zz.V C 3 a b=match bothS addR C a b with
  | some x=>some (litS C x)
  | none=>bif isV C b 0 then some (C,a) else bif isV C a 0 then some (C,b) else bif likeB addR C a b then some (likeS addR C a b) else some (putS C (mkT 3 a b 0 R0)):=by
 unfold zz.b
 rw [ha.d,hb.d,isLit_is ha]
 simp only [cond_true,Option.bind_some]
 rw [isLit_is hb]
 have first':(bif isL C a then Option.bind (some (C,isL C b)) (fun y10=>some (y10.1,((rdL (Ty.zero api_Term) C a).2.2.2.2.1,((rdL (Ty.zero api_Term) C b).2.2.2.2.1,((3:Int),(a,(b,y10.2))))))) else some (C,((rdL (Ty.zero api_Term) C a).2.2.2.2.1,((rdL (Ty.zero api_Term) C b).2.2.2.2.1,((3:Int),(a,(b,false)))))))=some (C,(tv (tI C a),(tv (tI C b),((3:Int),(a,(b,isL C a && isL C b)))))):=by cases isL C a <;> rfl
 rw [first']
 have e3:((3:Int) == 3)=true:=rfl
 have eq4:((3:Int) == 4)=false:=rfl
 have e10:((1:Int) == 0)=false:=rfl
 simp only [Option.bind_some,e3,eq4,cond_false,cond_true]
 obtain ⟨c1,a1⟩:=oft_ok h ha
 obtain ⟨c2,a2⟩:=oft_ok h hb
 have hput:=rput_v h (GT_two (k:=3) (by omega) ha hb) (by omega)
 have fin:(Option.bind (zx.V C (3,(a,(b,(0,(((false,([],())),([],())),())))))) fun y12=>some (y12.1,y12.2))=some (putS C (mkT 3 a b 0 R0)):=by
  rw [bind_eta]
  exact hput
 cases hlits:(isL C a && isL C b)
 ·have hbo:bothS addR C a b=none:=by unfold bothS;rw [hlits];rfl
  rw [hbo]
  simp only [cond_false,Option.bind_some,e10]
  rw [rlitIs_v h hb (v:=0) (by omega)]
  simp only [Option.bind_some]
  cases z0:isV C b 0
  ·simp only [cond_false]
   rw [rlitIs_v h ha (v:=0) (by omega)]
   simp only [Option.bind_some]
   cases z1:isV C a 0
   ·simp only [cond_false]
    rw [rsplit_v h ha]
    simp only [Option.bind_some]
    rw [rsplit_v h hb]
    simp only [Option.bind_some]
    unfold likeB
    cases e1:((oftS C a).2 == (oftS C b).2)
    ·exact fin
    ·simp only [cond_true]
     rw [isLit_is a1]
     simp only [Option.bind_some]
     cases e2:isL C (oftS C a).2
     ·simp only [Bool.not_false,cond_true]
      rw [show xJ.V (((tr (oftS C a).1).1,((tr (oftS C a).1).2.1,())),((tr (oftS C a).1).2.2,())) (((tr (oftS C b).1).1,((tr (oftS C b).1).2.1,())),((tr (oftS C b).1).2.2,()))=_ from (addR_v c1 c2).2]
      simp only [Option.bind_some,eq4,cond_false,cond_true]
      cases e3:((addR (oftS C a).1 (oftS C b).1).2 == 0)
      ·have e3':((fl (addR (oftS C a).1 (oftS C b).1)).2.2.2 == 0)=false:=e3
       rw [e3']
       exact fin
      ·have e3':((fl (addR (oftS C a).1 (oftS C b).1)).2.2.2 == 0)=true:=e3
       have hc:CanR (addR (oftS C a).1 (oftS C b).1).1:=ofR_can (by simpa [addR] using e3)
       obtain ⟨⟨_,t2⟩,_⟩:=stimes_v h hc a1 hl
       rw [e3']
       simp only [cond_true]
       rw [show yd.V C (((fl (addR (oftS C a).1 (oftS C b).1)).1,((fl (addR (oftS C a).1 (oftS C b).1)).2.1,())),((fl (addR (oftS C a).1 (oftS C b).1)).2.2.1,())) (oftS C a).2=_ from t2]
       rfl
     ·exact fin
   ·simp only [cond_true,eq4]
    rfl
  ·rfl
 ·have hA:isL C a=true:=(Bool.and_eq_true _ _ ▸ hlits).1
  have hB:isL C b=true:=(Bool.and_eq_true _ _ ▸ hlits).2
  have cA:=h.lit ha hA
  have cB:=h.lit hb hB
  simp only [cond_true]
  rw [(addR_v cA cB).2]
  simp only [Option.bind_some]
  cases hE:((addR (tv (tI C a)) (tv (tI C b))).2 == 0)
  ·have hbo:bothS addR C a b=none:=by unfold bothS;rw [hlits,hE];rfl
   have hE':((fl (addR (tv (tI C a)) (tv (tI C b)))).2.2.2 == 0)=false:=hE
   rw [hbo,hE']
   simp only [cond_false]
   rw [rlitIs_v h hb (v:=0) (by omega)]
   simp only [Option.bind_some]
   cases z0:isV C b 0
   ·simp only [cond_false]
    rw [rlitIs_v h ha (v:=0) (by omega)]
    simp only [Option.bind_some]
    cases z1:isV C a 0
    ·simp only [cond_false]
     rw [rsplit_v h ha]
     simp only [Option.bind_some]
     rw [rsplit_v h hb]
     simp only [Option.bind_some]
     unfold likeB
     cases e1:((oftS C a).2 == (oftS C b).2)
     ·exact fin
     ·simp only [cond_true]
      rw [isLit_is a1]
      simp only [Option.bind_some]
      cases e2:isL C (oftS C a).2
      ·simp only [Bool.not_false,cond_true]
       rw [show xJ.V (((tr (oftS C a).1).1,((tr (oftS C a).1).2.1,())),((tr (oftS C a).1).2.2,())) (((tr (oftS C b).1).1,((tr (oftS C b).1).2.1,())),((tr (oftS C b).1).2.2,()))=_ from (addR_v c1 c2).2]
       simp only [Option.bind_some,eq4,cond_false,cond_true]
       cases e3:((addR (oftS C a).1 (oftS C b).1).2 == 0)
       ·have e3':((fl (addR (oftS C a).1 (oftS C b).1)).2.2.2 == 0)=false:=e3
        rw [e3']
        exact fin
       ·have e3':((fl (addR (oftS C a).1 (oftS C b).1)).2.2.2 == 0)=true:=e3
        have hc:CanR (addR (oftS C a).1 (oftS C b).1).1:=ofR_can (by simpa [addR] using e3)
        obtain ⟨⟨_,t2⟩,_⟩:=stimes_v h hc a1 hl
        rw [e3']
        simp only [cond_true]
        rw [show yd.V C (((fl (addR (oftS C a).1 (oftS C b).1)).1,((fl (addR (oftS C a).1 (oftS C b).1)).2.1,())),((fl (addR (oftS C a).1 (oftS C b).1)).2.2.1,())) (oftS C a).2=_ from t2]
        rfl
      ·exact fin
    ·simp only [cond_true,eq4]
     rfl
   ·rfl
  ·have hbo:bothS addR C a b=some (addR (tv (tI C a)) (tv (tI C b))).1:=by unfold bothS;rw [hlits,hE];rfl
   have hE':((fl (addR (tv (tI C a)) (tv (tI C b)))).2.2.2 == 0)=true:=hE
   have hc:CanR (addR (tv (tI C a)) (tv (tI C b))).1:=ofR_can (by simpa [addR] using hE)
   rw [hbo,hE']
   simp only [cond_true]
   rw [show yk.V C (((fl (addR (tv (tI C a)) (tv (tI C b)))).1,((fl (addR (tv (tI C a)) (tv (tI C b)))).2.1,())),((fl (addR (tv (tI C a)) (tv (tI C b)))).2.2.1,()))=_ from rlit_v h hc (by omega)]
   rfl
theorem rbody4 {C:CO} (h:Inv C) {a b:Int} (ha:At C a) (hb:At C b) (hl:C.length < 300000) :
 zz.b xJ.V xS.V yk.V yY.V xk.V yZ.V xK.V xI.V yI.V zx.V yd.V zz.V C 4 a b=match bothS subR C a b with
  | some x=>some (litS C x)
  | none=>bif isV C b 0 then some (C,a) else bif isV C a 0 then some (negS C b) else bif likeB subR C a b then some (likeS subR C a b) else some (putS C (mkT 4 a b 0 R0)):=by
 unfold zz.b
 rw [ha.d,hb.d,isLit_is ha]
 simp only [cond_true,Option.bind_some]
 rw [isLit_is hb]
 have first':(bif isL C a then Option.bind (some (C,isL C b)) (fun y10=>some (y10.1,((rdL (Ty.zero api_Term) C a).2.2.2.2.1,((rdL (Ty.zero api_Term) C b).2.2.2.2.1,((4:Int),(a,(b,y10.2))))))) else some (C,((rdL (Ty.zero api_Term) C a).2.2.2.2.1,((rdL (Ty.zero api_Term) C b).2.2.2.2.1,((4:Int),(a,(b,false)))))))=some (C,(tv (tI C a),(tv (tI C b),((4:Int),(a,(b,isL C a && isL C b)))))):=by cases isL C a <;> rfl
 rw [first']
 have e3:((4:Int) == 3)=false:=rfl
 have eq4:((4:Int) == 4)=true:=rfl
 have e10:((1:Int) == 0)=false:=rfl
 simp only [Option.bind_some,e3,eq4,cond_false,cond_true]
 obtain ⟨c1,a1⟩:=oft_ok h ha
 obtain ⟨c2,a2⟩:=oft_ok h hb
 have hput:=rput_v h (GT_two (k:=4) (by omega) ha hb) (by omega)
 have fin:(Option.bind (zx.V C (4,(a,(b,(0,(((false,([],())),([],())),())))))) fun y12=>some (y12.1,y12.2))=some (putS C (mkT 4 a b 0 R0)):=by
  rw [bind_eta]
  exact hput
 cases hlits:(isL C a && isL C b)
 ·have hbo:bothS subR C a b=none:=by unfold bothS;rw [hlits];rfl
  rw [hbo]
  simp only [cond_false,Option.bind_some,e10]
  rw [rlitIs_v h hb (v:=0) (by omega)]
  simp only [Option.bind_some]
  cases z0:isV C b 0
  ·simp only [cond_false]
   rw [rlitIs_v h ha (v:=0) (by omega)]
   simp only [Option.bind_some]
   cases z1:isV C a 0
   ·simp only [cond_false]
    rw [rsplit_v h ha]
    simp only [Option.bind_some]
    rw [rsplit_v h hb]
    simp only [Option.bind_some]
    unfold likeB
    cases e1:((oftS C a).2 == (oftS C b).2)
    ·exact fin
    ·simp only [cond_true]
     rw [isLit_is a1]
     simp only [Option.bind_some]
     cases e2:isL C (oftS C a).2
     ·simp only [Bool.not_false,cond_true]
      rw [show xJ.V (((tr (oftS C a).1).1,((tr (oftS C a).1).2.1,())),((tr (oftS C a).1).2.2,())) (((tr (oftS C b).1).1,((tr (oftS C b).1).2.1,())),((tr (oftS C b).1).2.2,()))=_ from (addR_v c1 c2).2]
      simp only [Option.bind_some,eq4,cond_false,cond_true]
      rw [show xS.V (((tr (oftS C a).1).1,((tr (oftS C a).1).2.1,())),((tr (oftS C a).1).2.2,())) (((tr (oftS C b).1).1,((tr (oftS C b).1).2.1,())),((tr (oftS C b).1).2.2,()))=_ from (subR_v c1 c2).2]
      simp only [Option.bind_some]
      cases e3:((subR (oftS C a).1 (oftS C b).1).2 == 0)
      ·have e3':((fl (subR (oftS C a).1 (oftS C b).1)).2.2.2 == 0)=false:=e3
       rw [e3']
       exact fin
      ·have e3':((fl (subR (oftS C a).1 (oftS C b).1)).2.2.2 == 0)=true:=e3
       have hc:CanR (subR (oftS C a).1 (oftS C b).1).1:=ofR_can (by simpa [subR] using e3)
       obtain ⟨⟨_,t2⟩,_⟩:=stimes_v h hc a1 hl
       rw [e3']
       simp only [cond_true]
       rw [show yd.V C (((fl (subR (oftS C a).1 (oftS C b).1)).1,((fl (subR (oftS C a).1 (oftS C b).1)).2.1,())),((fl (subR (oftS C a).1 (oftS C b).1)).2.2.1,())) (oftS C a).2=_ from t2]
       rfl
     ·exact fin
   ·simp only [cond_true,eq4]
    rw [rneg_v h hb (by omega)]
    rfl
  ·rfl
 ·have hA:isL C a=true:=(Bool.and_eq_true _ _ ▸ hlits).1
  have hB:isL C b=true:=(Bool.and_eq_true _ _ ▸ hlits).2
  have cA:=h.lit ha hA
  have cB:=h.lit hb hB
  simp only [cond_true]
  rw [(addR_v cA cB).2]
  simp only [Option.bind_some]
  rw [(subR_v cA cB).2]
  simp only [Option.bind_some]
  cases hE:((subR (tv (tI C a)) (tv (tI C b))).2 == 0)
  ·have hbo:bothS subR C a b=none:=by unfold bothS;rw [hlits,hE];rfl
   have hE':((fl (subR (tv (tI C a)) (tv (tI C b)))).2.2.2 == 0)=false:=hE
   rw [hbo,hE']
   simp only [cond_false]
   rw [rlitIs_v h hb (v:=0) (by omega)]
   simp only [Option.bind_some]
   cases z0:isV C b 0
   ·simp only [cond_false]
    rw [rlitIs_v h ha (v:=0) (by omega)]
    simp only [Option.bind_some]
    cases z1:isV C a 0
    ·simp only [cond_false]
     rw [rsplit_v h ha]
     simp only [Option.bind_some]
     rw [rsplit_v h hb]
     simp only [Option.bind_some]
     unfold likeB
     cases e1:((oftS C a).2 == (oftS C b).2)
     ·exact fin
     ·simp only [cond_true]
      rw [isLit_is a1]
      simp only [Option.bind_some]
      cases e2:isL C (oftS C a).2
      ·simp only [Bool.not_false,cond_true]
       rw [show xJ.V (((tr (oftS C a).1).1,((tr (oftS C a).1).2.1,())),((tr (oftS C a).1).2.2,())) (((tr (oftS C b).1).1,((tr (oftS C b).1).2.1,())),((tr (oftS C b).1).2.2,()))=_ from (addR_v c1 c2).2]
       simp only [Option.bind_some,eq4,cond_false,cond_true]
       rw [show xS.V (((tr (oftS C a).1).1,((tr (oftS C a).1).2.1,())),((tr (oftS C a).1).2.2,())) (((tr (oftS C b).1).1,((tr (oftS C b).1).2.1,())),((tr (oftS C b).1).2.2,()))=_ from (subR_v c1 c2).2]
       simp only [Option.bind_some]
       cases e3:((subR (oftS C a).1 (oftS C b).1).2 == 0)
       ·have e3':((fl (subR (oftS C a).1 (oftS C b).1)).2.2.2 == 0)=false:=e3
        rw [e3']
        exact fin
       ·have e3':((fl (subR (oftS C a).1 (oftS C b).1)).2.2.2 == 0)=true:=e3
        have hc:CanR (subR (oftS C a).1 (oftS C b).1).1:=ofR_can (by simpa [subR] using e3)
        obtain ⟨⟨_,t2⟩,_⟩:=stimes_v h hc a1 hl
        rw [e3']
        simp only [cond_true]
        rw [show yd.V C (((fl (subR (oftS C a).1 (oftS C b).1)).1,((fl (subR (oftS C a).1 (oftS C b).1)).2.1,())),((fl (subR (oftS C a).1 (oftS C b).1)).2.2.1,())) (oftS C a).2=_ from t2]
        rfl
      ·exact fin
    ·simp only [cond_true,eq4]
     rw [rneg_v h hb (by omega)]
     rfl
   ·rfl
  ·have hbo:bothS subR C a b=some (subR (tv (tI C a)) (tv (tI C b))).1:=by unfold bothS;rw [hlits,hE];rfl
   have hE':((fl (subR (tv (tI C a)) (tv (tI C b)))).2.2.2 == 0)=true:=hE
   have hc:CanR (subR (tv (tI C a)) (tv (tI C b))).1:=ofR_can (by simpa [subR] using hE)
   rw [hbo,hE']
   simp only [cond_true]
   rw [show yk.V C (((fl (subR (tv (tI C a)) (tv (tI C b)))).1,((fl (subR (tv (tI C a)) (tv (tI C b)))).2.1,())),((fl (subR (tv (tI C a)) (tv (tI C b)))).2.2.1,()))=_ from rlit_v h hc (by omega)]
   rfl
end
end Go.Proofs.YtlfcdmibknmjeaaGreatDoor.E
end
section
namespace Go.Proofs.YtlfcdmibknmjeaaGreatDoor.E
open Go Go.Proofs.YtlfcdmibknmjeaaGreatDoor.Ev
set_option linter.unusedSimpArgs false
noncomputable section
def addS (C:CO) (a b:Int):CO × Int:=match bothS addR C a b with
 | some x=>litS C x
 | none=>bif isV C b 0 then (C,a) else bif isV C a 0 then (C,b) else bif likeB addR C a b then likeS addR C a b else putS C (mkT 3 a b 0 R0)
def subS (C:CO) (a b:Int):CO × Int:=match bothS subR C a b with
 | some x=>litS C x
 | none=>bif isV C b 0 then (C,a) else bif isV C a 0 then negS C b else bif likeB subR C a b then likeS subR C a b else putS C (mkT 4 a b 0 R0)
def divS (C:CO) (a b:Int):CO × Int:=match bothS divR C a b with
 | some x=>litS C x
 | none=>bif isV C b 1 then (C,a) else bif isV C a 0 then (C,a) else putS C (mkT 6 a b 0 R0)
def Fine (C:CO) (r:CO × Int):Prop:=Ok C r∧r.1.length ≤ C.length + nlA C + 2∧nlA r.1 ≤ nlA C + 1
theorem Fine.old {C:CO} (h:Inv C) {i:Int} (hi:At C i):Fine C (C,i):=⟨⟨h,.refl C,hi⟩,by show C.length ≤ _;omega,by show nlA C ≤ _;omega⟩
theorem Fine.lit {C:CO} (h:Inv C) {x:RA} (hx:CanR x):Fine C (litS C x):=by
 obtain ⟨o1,o2,o3,o4,o5⟩:=litS_ok h hx
 exact ⟨o1,by omega,by omega⟩
theorem Fine.put {C:CO} (h:Inv C) {t:TE} (ht:GT ((C.length:Nat):Int) t):Fine C (putS C t):=by
 obtain ⟨p1,p2,p3,p4⟩:=putS_ok h ht
 refine ⟨p1,by omega,Nat.le_trans p4 ?_⟩
 split <;> omega
theorem Fine.neg {C:CO} (h:Inv C) {a:Int} (ha:At C a):Fine C (negS C a):=by
 unfold negS
 cases hl:isL C a
 ·cases h7:(tk (tI C a) == 7)
  ·exact .put h (GT_neg ha)
  ·exact .old h ((h.kids ha).1 (.inl (by simpa using h7))).1
 ·exact .lit h (h.lit ha hl).neg
theorem Fine.like {f:RA→RA→RA × Int} (hf:∀ x y,(f x y).2=0→CanR (f x y).1) {C:CO} (h:Inv C) {a b:Int} (ha:At C a) (hl:C.length < 300000) (hb:likeB f C a b=true):Fine C (likeS f C a b):=by
 unfold likeB at hb
 rw [Bool.and_eq_true,Bool.and_eq_true,beq_iff_eq,beq_iff_eq] at hb
 obtain ⟨_,h1,h2,h3⟩:=stimes_v h (hf _ _ hb.2.2) (oft_ok h ha).2 hl
 exact ⟨h1,h2,h3⟩
theorem isV_uniq {C:CO} (h:Inv C) {a b v:Int} (ha:At C a) (hb:At C b) (e:isV C a v=true) (e':isV C b v=true):a=b:=by
 have key:∀ i,At C i→isV C i v=true→tI C i=mkT 1 0 0 0 (R v 1):=fun i hi hv=>by
  unfold isV at hv
  rw [Bool.and_eq_true,Bool.and_eq_true,decide_eq_true_eq,decide_eq_true_eq] at hv
  obtain ⟨h1,h2,h3⟩:=hv
  have hk:tk (tI C i)=1:=by unfold isL at h1;simpa using h1
  obtain ⟨⟨z,d,_,hx⟩,ht⟩:=(h.gt hi).can hk
  rw [hx,rZ_R] at h2
  rw [hx,rD_R] at h3
  rw [ht,hx,h2,h3]
 exact h.uniq ha hb (by rw [key a ha e,key b hb e'])
theorem addS_v {C:CO} (h:Inv C) {a b:Int} (ha:At C a) (hb:At C b) (hl:C.length < 300000) :
 (zV.V C (mapC C) a b=ans (addS C a b)∧zz.V C 3 a b=some (addS C a b))∧Fine C (addS C a b):=by
 have rb:=rbody3 h ha hb hl
 have hbo:=bothAdd_v h ha hb (by omega)
 have hlk:=likeAdd_v h ha hb hl
 have i1:=sis_v h (mapC C) (i:=a) (v:=0) ha (by omega)
 have i2:=sis_v h (mapC C) (i:=b) (v:=0) hb (by omega)
 have hput:=sput_v h (GT_two (k:=3) (by omega) ha hb) (by omega)
 have fp:=Fine.put h (GT_two (k:=3) (by omega) ha hb)
 unfold addS
 cases hx:bothS addR C a b with
 | some x =>
  rw [hx] at rb hbo
  obtain ⟨_,_,h3,h4⟩:=bothS_some hx
  have hc:CanR x:=by rw [h4];exact ofR_can h3
  refine ⟨⟨?_,zz.v _ _ _ _ rb⟩,.lit h hc⟩
  refine zV.v _ _ _ _ ?_
  unfold zV.b
  simp only
  rw [hbo]
  rfl
 | none =>
  rw [hx] at rb hbo
  simp only at rb ⊢
  cases z0:isV C b 0
  ·cases z1:isV C a 0
   ·cases hk:likeB addR C a b
    ·rw [z0,z1,hk] at rb
     rw [hk] at hlk
     refine ⟨⟨?_,zz.v _ _ _ _ rb⟩,fp⟩
     refine zV.v _ _ _ _ ?_
     unfold zV.b
     simp only
     rw [hbo]
     simp only [bothA,Option.bind_some,cond_false]
     rw [i1,z1]
     simp only [Option.bind_some,cond_false]
     rw [i2,z0]
     simp only [Option.bind_some,cond_false]
     rw [hlk]
     simp only [Option.bind_some,cond_false]
     rw [bind_eta3]
     exact hput
    ·rw [z0,z1,hk] at rb
     rw [hk] at hlk
     refine ⟨⟨?_,zz.v _ _ _ _ rb⟩,.like (fun _ _ e=>ofR_can e) h ha hl hk⟩
     refine zV.v _ _ _ _ ?_
     unfold zV.b
     simp only
     rw [hbo]
     simp only [bothA,Option.bind_some,cond_false]
     rw [i1,z1]
     simp only [Option.bind_some,cond_false]
     rw [i2,z0]
     simp only [Option.bind_some,cond_false]
     rw [hlk]
     rfl
   ·rw [z0,z1] at rb
    refine ⟨⟨?_,zz.v _ _ _ _ rb⟩,.old h hb⟩
    refine zV.v _ _ _ _ ?_
    unfold zV.b
    simp only
    rw [hbo]
    simp only [bothA,Option.bind_some,cond_false]
    rw [i1,z1]
    rfl
  ·rw [z0] at rb
   refine ⟨⟨?_,zz.v _ _ _ _ rb⟩,.old h ha⟩
   refine zV.v _ _ _ _ ?_
   unfold zV.b
   simp only
   rw [hbo]
   simp only [bothA,Option.bind_some,cond_false]
   rw [i1]
   cases z1:isV C a 0
   ·simp only [Option.bind_some,cond_false]
    rw [i2,z0]
    rfl
   ·rw [isV_uniq h ha hb z1 z0]
    rfl
theorem subS_v {C:CO} (h:Inv C) {a b:Int} (ha:At C a) (hb:At C b) (hl:C.length < 300000) :
 (zW.V C (mapC C) a b=ans (subS C a b)∧zz.V C 4 a b=some (subS C a b))∧Fine C (subS C a b):=by
 have rb:=rbody4 h ha hb hl
 have hbo:=bothSub_v h ha hb (by omega)
 have hlk:=likeSub_v h ha hb hl
 have i1:=sis_v h (mapC C) (i:=a) (v:=0) ha (by omega)
 have i2:=sis_v h (mapC C) (i:=b) (v:=0) hb (by omega)
 have hput:=sput_v h (GT_two (k:=4) (by omega) ha hb) (by omega)
 have fp:=Fine.put h (GT_two (k:=4) (by omega) ha hb)
 have hng:=sneg_v h hb (by omega)
 unfold subS
 cases hx:bothS subR C a b with
 | some x =>
  rw [hx] at rb hbo
  obtain ⟨_,_,h3,h4⟩:=bothS_some hx
  have hc:CanR x:=by rw [h4];exact ofR_can h3
  refine ⟨⟨?_,zz.v _ _ _ _ rb⟩,.lit h hc⟩
  refine zW.v _ _ _ _ ?_
  unfold zW.b
  simp only
  rw [hbo]
  rfl
 | none =>
  rw [hx] at rb hbo
  simp only at rb ⊢
  cases z0:isV C b 0
  ·cases z1:isV C a 0
   ·cases hk:likeB subR C a b
    ·rw [z0,z1,hk] at rb
     rw [hk] at hlk
     refine ⟨⟨?_,zz.v _ _ _ _ rb⟩,fp⟩
     refine zW.v _ _ _ _ ?_
     unfold zW.b
     simp only
     rw [hbo]
     simp only [bothA,Option.bind_some,cond_false]
     rw [i2,z0]
     simp only [Option.bind_some,cond_false]
     rw [i1,z1]
     simp only [Option.bind_some,cond_false]
     rw [hlk]
     simp only [Option.bind_some,cond_false]
     rw [bind_eta3]
     exact hput
    ·rw [z0,z1,hk] at rb
     rw [hk] at hlk
     refine ⟨⟨?_,zz.v _ _ _ _ rb⟩,.like (fun _ _ e=>ofR_can e) h ha hl hk⟩
     refine zW.v _ _ _ _ ?_
     unfold zW.b
     simp only
     rw [hbo]
     simp only [bothA,Option.bind_some,cond_false]
     rw [i2,z0]
     simp only [Option.bind_some,cond_false]
     rw [i1,z1]
     simp only [Option.bind_some,cond_false]
     rw [hlk]
     rfl
   ·rw [z0,z1] at rb
    refine ⟨⟨?_,zz.v _ _ _ _ rb⟩,.neg h hb⟩
    refine zW.v _ _ _ _ ?_
    unfold zW.b
    simp only
    rw [hbo]
    simp only [bothA,Option.bind_some,cond_false]
    rw [i2,z0]
    simp only [Option.bind_some,cond_false]
    rw [i1,z1]
    simp only [Option.bind_some,cond_true]
    rw [hng]
    rfl
  ·rw [z0] at rb
   refine ⟨⟨?_,zz.v _ _ _ _ rb⟩,.old h ha⟩
   refine zW.v _ _ _ _ ?_
   unfold zW.b
   simp only
   rw [hbo]
   simp only [bothA,Option.bind_some,cond_false]
   rw [i2,z0]
   rfl
theorem sign_div {x y:RA} (hy:CanR y) (e:rZ y=0):(divR x y).2=3:=by
 obtain ⟨z,d,_,rfl⟩:=hy
 rw [rZ_R] at e
 subst e
 unfold divR ofR
 rw [rZ_R,if_pos (by simp)]
theorem rbody6 {C:CO} (h:Inv C) {a b:Int} (ha:At C a) (hb:At C b) (hl:C.length < 300000) :
 zz.b xJ.V xS.V yk.V yY.V xk.V yZ.V xK.V xI.V yI.V zx.V yd.V zz.V C 6 a b=some (divS C a b):=by
 unfold zz.b divS
 rw [ha.d,hb.d,isLit_is ha]
 simp only [cond_true,Option.bind_some]
 rw [isLit_is hb]
 have first':(bif isL C a then Option.bind (some (C,isL C b)) (fun y10=>some (y10.1,((rdL (Ty.zero api_Term) C a).2.2.2.2.1,((rdL (Ty.zero api_Term) C b).2.2.2.2.1,((6:Int),(a,(b,y10.2))))))) else some (C,((rdL (Ty.zero api_Term) C a).2.2.2.2.1,((rdL (Ty.zero api_Term) C b).2.2.2.2.1,((6:Int),(a,(b,false)))))))=some (C,(tv (tI C a),(tv (tI C b),((6:Int),(a,(b,isL C a && isL C b)))))):=by cases isL C a <;> rfl
 rw [first']
 have e3:((6:Int) == 3)=false:=rfl
 have e4:((6:Int) == 4)=false:=rfl
 have e5:((6:Int) == 5)=false:=rfl
 have e6:((6:Int) == 6)=true:=rfl
 have e10:((1:Int) == 0)=false:=rfl
 simp only [Option.bind_some,e3,e4,e5,e6,cond_false,cond_true]
 have hput:=rput_v h (GT_two (k:=6) (by omega) ha hb) (by omega)
 have fin:(Option.bind (zx.V C (6,(a,(b,(0,(((false,([],())),([],())),())))))) fun y12=>some (y12.1,y12.2))=some (putS C (mkT 6 a b 0 R0)):=by
  rw [bind_eta]
  exact hput
 cases hlits:(isL C a && isL C b)
 ·have hbo:bothS divR C a b=none:=by unfold bothS;rw [hlits];rfl
  rw [hbo]
  simp only [cond_false,Option.bind_some,e10]
  rw [rlitIs_v h hb (v:=1) (by omega)]
  simp only [Option.bind_some]
  cases z0:isV C b 1
  ·simp only [cond_false]
   rw [rlitIs_v h ha (v:=0) (by omega)]
   simp only [Option.bind_some]
   cases z1:isV C a 0
   ·exact fin
   ·rfl
  ·rfl
 ·have hA:isL C a=true:=(Bool.and_eq_true _ _ ▸ hlits).1
  have hB:isL C b=true:=(Bool.and_eq_true _ _ ▸ hlits).2
  have cA:=h.lit ha hA
  have cB:=h.lit hb hB
  have hs:xI.V (tv (tI C b))=some (cmpZ (rZ (tv (tI C b))) 0):=by
   obtain ⟨z,d,hc,he⟩:=cB
   rw [he,rZ_R]
   exact rrsign_R hc
  simp only [cond_true]
  rw [hs]
  simp only [Option.bind_some]
  have hc0:=cmpZ_0 (rZ (tv (tI C b)))
  by_cases hy:rZ (tv (tI C b))=0
  ·have hbo:bothS divR C a b=none:=by unfold bothS;rw [hlits,sign_div cB hy];rfl
   rw [dt' hy] at hc0
   rw [hbo,show (cmpZ (rZ (tv (tI C b))) 0 != 0)=false by rw [bne,hc0];rfl]
   simp only [cond_false,Option.bind_some,e10]
   rw [rlitIs_v h hb (v:=1) (by omega)]
   simp only [Option.bind_some]
   cases z0:isV C b 1
   ·simp only [cond_false]
    rw [rlitIs_v h ha (v:=0) (by omega)]
    simp only [Option.bind_some]
    cases z1:isV C a 0
    ·exact fin
    ·rfl
   ·rfl
  ·rw [df' hy] at hc0
   rw [show (cmpZ (rZ (tv (tI C b))) 0 != 0)=true by rw [bne,hc0];rfl]
   simp only [cond_true]
   rw [(divR_v cA cB).2]
   simp only [Option.bind_some]
   cases hE:((divR (tv (tI C a)) (tv (tI C b))).2 == 0)
   ·have hbo:bothS divR C a b=none:=by unfold bothS;rw [hlits,hE];rfl
    have hE':((fl (divR (tv (tI C a)) (tv (tI C b)))).2.2.2 == 0)=false:=hE
    rw [hbo,hE']
    simp only [cond_false]
    rw [rlitIs_v h hb (v:=1) (by omega)]
    simp only [Option.bind_some]
    cases z0:isV C b 1
    ·simp only [cond_false]
     rw [rlitIs_v h ha (v:=0) (by omega)]
     simp only [Option.bind_some]
     cases z1:isV C a 0
     ·exact fin
     ·rfl
    ·rfl
   ·have hbo:bothS divR C a b=some (divR (tv (tI C a)) (tv (tI C b))).1:=by unfold bothS;rw [hlits,hE];rfl
    have hE':((fl (divR (tv (tI C a)) (tv (tI C b)))).2.2.2 == 0)=true:=hE
    have hc:CanR (divR (tv (tI C a)) (tv (tI C b))).1:=ofR_can (by simpa [divR] using hE)
    rw [hbo,hE']
    simp only [cond_true]
    rw [show yk.V C (((fl (divR (tv (tI C a)) (tv (tI C b)))).1,((fl (divR (tv (tI C a)) (tv (tI C b)))).2.1,())),((fl (divR (tv (tI C a)) (tv (tI C b)))).2.2.1,()))=_ from rlit_v h hc (by omega)]
    rfl
theorem divS_v {C:CO} (h:Inv C) {a b:Int} (ha:At C a) (hb:At C b) (hl:C.length < 300000) :
 (yf.V C (mapC C) a b=ans (divS C a b)∧zz.V C 6 a b=some (divS C a b))∧Fine C (divS C a b):=by
 refine ⟨⟨?_,zz.v _ _ _ _ (rbody6 h ha hb hl)⟩,?_⟩
 ·have hbo:=bothDiv_v h ha hb (by omega)
  have i1:=sis_v h (mapC C) (i:=b) (v:=1) hb (by omega)
  have i2:=sis_v h (mapC C) (i:=a) (v:=0) ha (by omega)
  have hput:=sput_v h (GT_two (k:=6) (by omega) ha hb) (by omega)
  unfold divS
  cases hx:bothS divR C a b with
  | some x =>
   rw [hx] at hbo
   refine yf.v _ _ _ _ ?_
   unfold yf.b
   simp only
   rw [hbo]
   rfl
  | none =>
   rw [hx] at hbo
   refine yf.v _ _ _ _ ?_
   unfold yf.b
   simp only
   rw [hbo]
   simp only [bothA,Option.bind_some,cond_false]
   rw [i1]
   simp only [Option.bind_some]
   cases z0:isV C b 1
   ·simp only [cond_false]
    rw [i2]
    simp only [Option.bind_some]
    cases z1:isV C a 0
    ·simp only [cond_false]
     rw [bind_eta3]
     exact hput
    ·rfl
   ·rfl
 ·unfold divS
  cases hx:bothS divR C a b with
  | some x =>
   obtain ⟨_,_,h3,h4⟩:=bothS_some hx
   exact .lit h (by rw [h4];exact ofR_can h3)
  | none =>
   simp only
   cases isV C b 1
   ·cases isV C a 0
    ·exact .put h (GT_two (k:=6) (by omega) ha hb)
    ·exact .old h ha
   ·exact .old h ha
end
end Go.Proofs.YtlfcdmibknmjeaaGreatDoor.E
end
section
namespace Go.Proofs.YtlfcdmibknmjeaaGreatDoor.E
open Go Go.Proofs.YtlfcdmibknmjeaaGreatDoor.Ev
set_option linter.unusedSimpArgs false
noncomputable section
def pwN (x:RA) (n:Int):RA × Int:=pwR (rZ x) (rD x) n
theorem pwN_v {x:RA} (h:CanR x) {n:Int} (hn:-9223372036854775808 ≤ n):yv.V x n=some (pwN x n)∧wc.V x n=some (fl (pwN x n)):=by
 obtain ⟨z,d,h,rfl⟩:=h
 unfold pwN
 rw [rZ_R,rD_R]
 exact ⟨rpow_R h hn,rrpow_R h hn⟩
theorem pwN_can {x:RA} (h:CanR x) {n:Int} (e:(pwN x n).2=0):CanR (pwN x n).1:=by
 obtain ⟨z,d,h,rfl⟩:=h
 unfold pwN pwR at e ⊢
 rw [rZ_R,rD_R] at e ⊢
 by_cases c1:n < -128 ∨ 128 < n
 ·rw [if_pos c1] at e
  exact absurd e (by show ¬ (2:Int)=0;omega)
 ·rw [if_neg c1] at e ⊢
  by_cases c2:n=0
  ·rw [if_pos c2]
   exact canR1 (by omega)
  ·rw [if_neg c2] at e ⊢
   by_cases c3:0 < n
   ·rw [if_pos c3] at e ⊢
    obtain ⟨h1,h2⟩:=limR_ok (Nat.pow_pos h.1) (psg_gcd h.2.1 n.toNat) e
    exact ⟨_,_,h2,h1⟩
   ·rw [if_neg c3] at e ⊢
    by_cases c4:z=0
    ·rw [if_pos c4] at e
     exact absurd e (by show ¬ (3:Int)=0;omega)
    ·rw [if_neg c4] at e ⊢
     have ht:=h.turn c4
     obtain ⟨h1,h2⟩:=limR_ok (Nat.pow_pos ht.1) (psg_gcd ht.2.1 (-n).toNat) e
     exact ⟨_,_,h2,h1⟩
def powB (C:CO) (a n:Int):Option RA:=bif isL C a && ((pwN (tv (tI C a)) n).2 == 0) then some (pwN (tv (tI C a)) n).1 else none
def powS (C:CO) (a n:Int):CO × Int :=
 if n=0 then litS C (R 1 1) else if n=1 then (C,a) else match powB C a n with
  | some x=>litS C x
  | none=>if _h:tk (tI C a)=8∧-128 ≤ tn (tI C a) * n∧tn (tI C a) * n ≤ 128∧0 ≤ ta (tI C a)∧ta (tI C a) < a then powS C (ta (tI C a)) (tn (tI C a) * n) else putS C (mkT 8 a 0 n R0)
termination_by a.toNat
decreasing_by omega
theorem GT.pow {i:Int} {t:TE} (h:GT i t) (hk:tk t=8):-128 ≤ tn t∧tn t ≤ 128:=by
 rcases h with ⟨z,d,hc,rfl⟩ | ⟨n,hn,rfl⟩ | ⟨a,ha,rfl⟩ | ⟨a,n,ha,rfl⟩ | ⟨k,a,b,ha,rfl⟩
 ·exact absurd hk (by show ¬ (1:Int)=8;omega)
 ·exact absurd hk (by show ¬ (2:Int)=8;omega)
 ·exact absurd hk (by show ¬ (7:Int)=8;omega)
 ·exact ⟨ha.2.2.1,ha.2.2.2⟩
 ·exact absurd hk (by show ¬ k=8;omega)
theorem GT_pow {C:CO} {a n:Int} (ha:At C a) (hn:-128 ≤ n∧n ≤ 128):GT ((C.length:Nat):Int) (mkT 8 a 0 n R0):=.inr (.inr (.inr (.inl ⟨a,n,⟨ha.1,ha.2,hn.1,hn.2⟩,rfl⟩)))
theorem mul_bound {m n:Int} (h1:-128 ≤ m∧m ≤ 128) (h2:-128 ≤ n∧n ≤ 128):-16384 ≤ m * n∧m * n ≤ 16384:=by
 have h:(m * n).natAbs ≤ 16384:=by
  rw [Int.natAbs_mul]
  exact Nat.le_trans (Nat.mul_le_mul (show m.natAbs ≤ 128 by omega) (show n.natAbs ≤ 128 by omega)) (by omega)
 omega
theorem powS_v:∀ (k:Nat) {C:CO} {a n:Int},a.toNat < k→Inv C→At C a→C.length < 300000→-128 ≤ n∧n ≤ 128 →
 (zm.V C (mapC C) a n=ans (powS C a n)∧yz.V C a n=some (powS C a n))∧Fine C (powS C a n):=by
 intro k
 induction k with
 | zero=>intro C a n h;omega
 | succ k ih =>
  intro C a n hk h ha hl hn
  rw [powS]
  by_cases n0:n=0
  ·subst n0
   have c1:CanR (R 1 1):=canR1 (by omega)
   rw [if_pos rfl]
   refine ⟨⟨?_,?_⟩,.lit h c1⟩
   ·refine zm.v _ _ _ _ ?_
    unfold zm.b
    rw [rwhole_R (z:=1) (by omega) (by omega)]
    simp only [BEq.rfl,cond_true,Option.bind_some]
    rw [show zk.V C (mapC C) (((tr (R 1 1)).1,((tr (R 1 1)).2.1,())),((tr (R 1 1)).2.2,()))=_ from slit_v h c1 (by omega)]
    rfl
   ·refine yz.v _ _ _ ?_
    unfold yz.b
    rw [rrwhole_R (z:=1) (by omega) (by omega)]
    simp only [BEq.rfl,cond_true,Option.bind_some]
    rw [show yk.V C (((tr (R 1 1)).1,((tr (R 1 1)).2.1,())),((tr (R 1 1)).2.2,()))=_ from rlit_v h c1 (by omega)]
    rfl
  ·rw [if_neg n0]
   have q0:(n == 0)=false:=by rw [beq_eq_false_iff_ne];exact n0
   by_cases n1:n=1
   ·subst n1
    rw [if_pos rfl]
    refine ⟨⟨?_,?_⟩,.old h ha⟩
    ·refine zm.v _ _ _ _ ?_
     unfold zm.b
     rfl
    ·refine yz.v _ _ _ ?_
     unfold yz.b
     rfl
   ·rw [if_neg n1]
    have q1:(n == 1)=false:=by rw [beq_eq_false_iff_ne];exact n1
    obtain ⟨k1,k2⟩:=h.kids ha
    have hput:=sput_v h (GT_pow ha hn) (by omega)
    have hrput:=rput_v h (GT_pow ha hn) (by omega)
    have fin:(Option.bind (zl.V C (mapC C) (8,(a,(0,(n,(((false,([],())),([],())),())))))) fun y15=>some (y15.1,(y15.2.1,y15.2.2)))=ans (putS C (mkT 8 a 0 n R0)):=by
     rw [bind_eta3]
     exact hput
    have rfin:(Option.bind (zx.V C (8,(a,(0,(n,(((false,([],())),([],())),())))))) fun y12=>some (y12.1,y12.2))=some (putS C (mkT 8 a 0 n R0)):=by
     rw [bind_eta]
     exact hrput
    have tail:powB C a n=none→(Option.bind (bif decide ((0:Int) ≤ a∧a < ((C.length:Nat):Int)) then (Option.bind (bif ((rdL (Ty.zero api_Term) C a).1 == (8:Int)) then (bif (decide ((IntKind.wrap .i64 ((rdL (Ty.zero api_Term) C a).2.2.2.1 * n)) ≥ (-(128:Int)))) then (some (C,(mapC C,((rdL (Ty.zero api_Term) C a),(a,(n,(decide ((IntKind.wrap .i64 ((rdL (Ty.zero api_Term) C a).2.2.2.1 * n)) ≤ (128:Int))))))))) else (some (C,(mapC C,((rdL (Ty.zero api_Term) C a),(a,(n,false))))))) else (some (C,(mapC C,((rdL (Ty.zero api_Term) C a),(a,(n,false))))))) fun y9:CO × MP × TE × Int × Int × Bool=>(bif y9.2.2.2.2.2 then (Option.bind (zm.V y9.1 y9.2.1 y9.2.2.1.2.1 (IntKind.wrap .i64 (y9.2.2.1.2.2.2.1 * y9.2.2.2.2.1))) fun y10=>(some (y10.1,(y10.2.1,y10.2.2)))) else (Option.bind (zl.V y9.1 y9.2.1 ((8:Int),(y9.2.2.2.1,((0:Int),(y9.2.2.2.2.1,(((false,(([]:List Int),())),(([]:List Int),())),())))))) fun y10=>(some (y10.1,(y10.2.1,y10.2.2)))))) else none) some=ans (if _h:tk (tI C a)=8∧-128 ≤ tn (tI C a) * n∧tn (tI C a) * n ≤ 128∧0 ≤ ta (tI C a)∧ta (tI C a) < a then powS C (ta (tI C a)) (tn (tI C a) * n) else putS C (mkT 8 a 0 n R0))) ∧
     (Option.bind (bif decide ((0:Int) ≤ a∧a < ((C.length:Nat):Int)) then (Option.bind (bif ((rdL (Ty.zero api_Term) C a).1 == (8:Int)) then (bif (decide ((IntKind.wrap .i64 ((rdL (Ty.zero api_Term) C a).2.2.2.1 * n)) ≥ (-(128:Int)))) then (some (C,((rdL (Ty.zero api_Term) C a),(a,(n,(decide ((IntKind.wrap .i64 ((rdL (Ty.zero api_Term) C a).2.2.2.1 * n)) ≤ (128:Int)))))))) else (some (C,((rdL (Ty.zero api_Term) C a),(a,(n,false)))))) else (some (C,((rdL (Ty.zero api_Term) C a),(a,(n,false)))))) fun y8:CO × TE × Int × Int × Bool=>(bif y8.2.2.2.2 then (Option.bind (yz.V y8.1 y8.2.1.2.1 (IntKind.wrap .i64 (y8.2.1.2.2.2.1 * y8.2.2.2.1))) fun y9=>(some (y9.1,y9.2))) else (Option.bind (zx.V y8.1 ((8:Int),(y8.2.2.1,((0:Int),(y8.2.2.2.1,(((false,(([]:List Int),())),(([]:List Int),())),())))))) fun y9=>(some (y9.1,y9.2))))) else none) some=some (if _h:tk (tI C a)=8∧-128 ≤ tn (tI C a) * n∧tn (tI C a) * n ≤ 128∧0 ≤ ta (tI C a)∧ta (tI C a) < a then powS C (ta (tI C a)) (tn (tI C a) * n) else putS C (mkT 8 a 0 n R0))) ∧
     Fine C (if _h:tk (tI C a)=8∧-128 ≤ tn (tI C a) * n∧tn (tI C a) * n ≤ 128∧0 ≤ ta (tI C a)∧ta (tI C a) < a then powS C (ta (tI C a)) (tn (tI C a) * n) else putS C (mkT 8 a 0 n R0)):=fun _=>by
     rw [ha.d]
     have osome:∀ {α:Type} (o:Option α),Option.bind o some=o:=fun o=>by cases o <;> rfl
     rw [osome,osome]
     simp only [cond_true]
     by_cases c8:tk (tI C a)=8
     ·have q8:(@BEq.beq Int _ (rdL (Ty.zero api_Term) C a).1 8)=true:=by rw [beq_iff_eq];exact c8
      have hb:=mul_bound ((h.gt ha).pow c8) hn
      have hw:IntKind.wrap .i64 ((rdL (Ty.zero api_Term) C a).2.2.2.1 * n)=tn (tI C a) * n:=by
       show IntKind.wrap .i64 (tn (tI C a) * n)=_
       exact wrap64 (by omega) (by omega)
      obtain ⟨kk1,kk2⟩:=k1 (by omega)
      rw [q8,hw]
      simp only [cond_true]
      by_cases c9:-128 ≤ tn (tI C a) * n
      ·by_cases c10:tn (tI C a) * n ≤ 128
       ·have ha0:=ha.1
        have ha1:=ha.2
        have kk0:=kk1.1
        rw [dt' (c:=tn (tI C a) * n ≥ -128) c9,dt' c10,dif_pos ⟨c8,c9,c10,kk0,kk2⟩]
        obtain ⟨⟨i1,i2⟩,i3⟩:=ih (C:=C) (a:=ta (tI C a)) (n:=tn (tI C a) * n) (by omega) h kk1 hl ⟨c9,c10⟩
        simp only [cond_true,Option.bind_some]
        rw [hw,bind_eta3,bind_eta]
        exact ⟨i1,i2,i3⟩
       ·rw [dt' (c:=tn (tI C a) * n ≥ -128) c9,df' c10,dif_neg (fun hh=>c10 hh.2.2.1)]
        exact ⟨fin,rfin,.put h (GT_pow ha hn)⟩
      ·rw [df' (c:=tn (tI C a) * n ≥ -128) c9,dif_neg (fun hh=>c9 hh.2.1)]
       exact ⟨fin,rfin,.put h (GT_pow ha hn)⟩
     ·have q8:(@BEq.beq Int _ (rdL (Ty.zero api_Term) C a).1 8)=false:=by rw [beq_eq_false_iff_ne];exact c8
      rw [q8,dif_neg (fun hh=>c8 hh.1)]
      exact ⟨fin,rfin,.put h (GT_pow ha hn)⟩
    have osome:∀ {α:Type} (o:Option α),Option.bind o some=o:=fun o=>by cases o <;> rfl
    rw [osome,osome] at tail
    cases hA:isL C a
    ·have hp:powB C a n=none:=by unfold powB;rw [hA];rfl
     rw [hp]
     obtain ⟨t1,t2,t3⟩:=tail hp
     refine ⟨⟨zm.v _ _ _ _ ?_,yz.v _ _ _ ?_⟩,t3⟩
     ·unfold zm.b
      simp only
      rw [q0,q1,number_is _ ha]
      simp only [cond_false,Option.bind_some]
      rw [hA]
      simp only [cond_false,Option.bind_some,Sum.elim_inl]
      exact t1
     ·unfold yz.b
      rw [q0,q1,isLit_is ha]
      simp only [cond_false,Option.bind_some]
      rw [hA]
      simp only [cond_false,Option.bind_some,Sum.elim_inl]
      exact t2
    ·have cA:=h.lit ha hA
     obtain ⟨p1,p2⟩:=pwN_v cA (n:=n) (by omega)
     have p2':wc.V (rdL (Ty.zero api_Term) C a).2.2.2.2.1 n=_:=p2
     cases hE:((pwN (tv (tI C a)) n).2 == 0)
     ·have hp:powB C a n=none:=by unfold powB;rw [hA,hE];rfl
      rw [hp]
      obtain ⟨t1,t2,t3⟩:=tail hp
      refine ⟨⟨zm.v _ _ _ _ ?_,yz.v _ _ _ ?_⟩,t3⟩
      ·unfold zm.b
       simp only
       rw [q0,q1,number_is _ ha]
       simp only [cond_false,Option.bind_some]
       rw [hA]
       simp only [cond_true]
       rw [p1]
       simp only [Option.bind_some]
       rw [hE]
       simp only [cond_false,Option.bind_some,Sum.elim_inl]
       exact t1
      ·unfold yz.b
       rw [q0,q1,isLit_is ha]
       simp only [cond_false,Option.bind_some]
       rw [hA,ha.d]
       simp only [cond_true]
       rw [p2']
       simp only [Option.bind_some]
       have hE':((fl (pwN (tv (tI C a)) n)).2.2.2 == 0)=false:=hE
       rw [hE']
       simp only [cond_false,Option.bind_some,Sum.elim_inl]
       exact t2
     ·have hp:powB C a n=some (pwN (tv (tI C a)) n).1:=by unfold powB;rw [hA,hE];rfl
      have hc:CanR (pwN (tv (tI C a)) n).1:=pwN_can cA (by simpa using hE)
      rw [hp]
      refine ⟨⟨zm.v _ _ _ _ ?_,yz.v _ _ _ ?_⟩,.lit h hc⟩
      ·unfold zm.b
       simp only
       rw [q0,q1,number_is _ ha]
       simp only [cond_false,Option.bind_some]
       rw [hA]
       simp only [cond_true]
       rw [p1]
       simp only [Option.bind_some]
       rw [hE]
       simp only [cond_true]
       rw [slit_v h hc (by omega)]
       rfl
      ·unfold yz.b
       rw [q0,q1,isLit_is ha]
       simp only [cond_false,Option.bind_some]
       rw [hA,ha.d]
       simp only [cond_true]
       rw [p2']
       simp only [Option.bind_some]
       have hE':((fl (pwN (tv (tI C a)) n)).2.2.2 == 0)=true:=hE
       rw [hE']
       simp only [cond_true]
       rw [show yk.V C (((fl (pwN (tv (tI C a)) n)).1,((fl (pwN (tv (tI C a)) n)).2.1,())),((fl (pwN (tv (tI C a)) n)).2.2.1,()))=_ from rlit_v h hc (by omega)]
       rfl
end
end Go.Proofs.YtlfcdmibknmjeaaGreatDoor.E
end
