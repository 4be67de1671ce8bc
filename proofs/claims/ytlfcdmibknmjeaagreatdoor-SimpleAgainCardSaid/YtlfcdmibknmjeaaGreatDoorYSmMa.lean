import Derived.Test.YtlfcdmibknmjeaaGreatDoorYArMd
section
namespace Go.Proofs.YtlfcdmibknmjeaaGreatDoor.E
open Go Go.Proofs.YtlfcdmibknmjeaaGreatDoor.Ev
set_option linter.unusedSimpArgs false
def goodK (k a b n i:Int) (neg:Bool) (m d:List Int):Bool :=
 bif k == 1 then (a == 0) && ((b == 0) && ((n == 0) && goodB neg m d))
 else bif (!neg) && ((((m.length:Nat):Int) == 0) && (((d.length:Nat):Int) == 0)) then
  (bif k == 2 then (a == 0) && ((b == 0) && decide (n ≥ 0))
  else bif k == 7 then (b == 0) && ((n == 0) && (decide (a ≥ 0) && decide (a < i)))
  else bif k == 8 then (b == 0) && (decide (a ≥ 0) && (decide (a < i) && (decide (n ≥ -128) && decide (n ≤ 128))))
  else bif (k == 3) || ((k == 4) || ((k == 5) || (k == 6))) then (n == 0) && (decide (a ≥ 0) && (decide (a < i) && (decide (b ≥ 0) && decide (b < i))))
  else false)
 else false
theorem cface (x y:core_face.denote):eqv core_face x y=((@BEq.beq Int _ x.1 y.1) && ((@BEq.beq Int _ x.2.1 y.2.1) && ((@BEq.beq Int _ x.2.2.1 y.2.2.1) && (@BEq.beq Int _ x.2.2.2.1 y.2.2.2.1)))):=by
 show ((@BEq.beq Int _ x.1 y.1) && ((@BEq.beq Int _ x.2.1 y.2.1) && ((@BEq.beq Int _ x.2.2.1 y.2.2.1) && ((@BEq.beq Int _ x.2.2.2.1 y.2.2.2.1) && true))))=_
 rw [Bool.and_true]
theorem none_is (x:RA):xO.f x=some ((!x.1.1) && ((((x.1.2.1.length:Nat):Int) == 0) && (((x.2.1.length:Nat):Int) == 0))):=by
 unfold xO.f
 cases x.1.1
 ·cases (((x.1.2.1.length:Nat):Int) == 0) <;> rfl
 ·rfl
theorem child_is (i a:Int):yU.f i a=some (i,decide (a ≥ 0) && decide (a < i)):=by
 unfold yU.f
 cases decide (a ≥ 0) <;> rfl
theorem cgood_v (k a b n i:Int) (neg:Bool) {m d:List Int} (hm:Lb m) (hd:Lb d) (sm:m.length ≤ 1000000) (sd:d.length ≤ 1000000) :
 xa.V (k,(a,(b,(n,(((neg,(m,())),(d,())),()))))) i=some (goodK k a b n i neg m d):=by
 refine xa.v _ _ ?_
 have hg:=good_v neg hm hd sm sd
 unfold xa.b goodK
 simp only [cface,none_is,child_is,hg,Option.bind_some,BEq.rfl,Bool.true_and]
 generalize goodB neg m d=g
 generalize ((!neg) && ((((m.length:Nat):Int) == 0) && (((d.length:Nat):Int) == 0)))=e
 generalize hd1:decide (a ≥ 0)=da
 generalize hd2:decide (a < i)=da'
 generalize hd3:decide (b ≥ 0)=db
 generalize hd4:decide (b < i)=db'
 generalize hd5:decide (n ≥ 0)=dn
 generalize hd6:decide (n ≥ -128)=dn'
 generalize hd7:decide (n ≤ 128)=dn''
 by_cases k1:k=1
 ·subst k1
  cases (a == 0) <;> cases (b == 0) <;> cases (n == 0) <;> rfl
 ·rw [show (k == 1)=false by rw [beq_eq_false_iff_ne];exact k1]
  cases e
  ·rfl
  ·by_cases k2:k=2
   ·subst k2
    cases (a == 0) <;> cases (b == 0) <;> rfl
   ·rw [show (k == 2)=false by rw [beq_eq_false_iff_ne];exact k2]
    by_cases k7:k=7
    ·subst k7
     cases (b == 0) <;> cases (n == 0) <;> rfl
    ·rw [show (k == 7)=false by rw [beq_eq_false_iff_ne];exact k7]
     by_cases k8:k=8
     ·subst k8
      cases (b == 0) <;> cases da <;> cases da' <;> cases dn' <;> rfl
     ·rw [show (k == 8)=false by rw [beq_eq_false_iff_ne];exact k8]
      by_cases k3:k=3
      ·subst k3
       cases (n == 0) <;> cases da <;> cases da' <;> cases db <;> rfl
      ·rw [show (k == 3)=false by rw [beq_eq_false_iff_ne];exact k3]
       by_cases k4:k=4
       ·subst k4
        cases (n == 0) <;> cases da <;> cases da' <;> cases db <;> rfl
       ·rw [show (k == 4)=false by rw [beq_eq_false_iff_ne];exact k4]
        by_cases k5:k=5
        ·subst k5
         cases (n == 0) <;> cases da <;> cases da' <;> cases db <;> rfl
        ·rw [show (k == 5)=false by rw [beq_eq_false_iff_ne];exact k5]
         by_cases k6:k=6
         ·subst k6
          cases (n == 0) <;> cases da <;> cases da' <;> cases db <;> rfl
         ·rw [show (k == 6)=false by rw [beq_eq_false_iff_ne];exact k6]
          rfl
def GT (i:Int) (t:TE):Prop :=
 (∃ z d,Can z d∧t=(1,(0,(0,(0,(R z d,())))))) ∨ (∃ n:Int,0 ≤ n∧t=(2,(0,(0,(n,(R0,()))))))
 ∨ (∃ a:Int,(0 ≤ a∧a < i)∧t=(7,(a,(0,(0,(R0,())))))) ∨ (∃ a n:Int,(0 ≤ a∧a < i∧-128 ≤ n∧n ≤ 128)∧t=(8,(a,(0,(n,(R0,()))))))
 ∨ (∃ k a b:Int,(3 ≤ k∧k ≤ 6∧0 ≤ a∧a < i∧0 ≤ b∧b < i)∧t=(k,(a,(b,(0,(R0,()))))))
theorem goodK_GT {k a b n i:Int} {neg:Bool} {m d:List Int} (h:goodK k a b n i neg m d=true):GT i (k,(a,(b,(n,(((neg,(m,())),(d,())),()))))):=by
 unfold goodK at h
 by_cases k1:k=1
 ·subst k1
  simp only [BEq.rfl,cond_true,Bool.and_eq_true,beq_iff_eq] at h
  obtain ⟨rfl,rfl,rfl,h⟩:=h
  obtain ⟨h1,h2⟩:=goodB_R h
  rw [h2]
  exact .inl ⟨_,_,h1,rfl⟩
 ·rw [show (k == 1)=false by rw [beq_eq_false_iff_ne];exact k1,cond_false] at h
  by_cases he:((!neg) && ((((m.length:Nat):Int) == 0) && (((d.length:Nat):Int) == 0)))=true
  ·rw [he,cond_true] at h
   simp only [Bool.and_eq_true,Bool.not_eq_true',beq_iff_eq] at he
   obtain ⟨rfl,hm,hd⟩:=he
   have hm':m=[]:=List.eq_nil_of_length_eq_zero (by omega)
   have hd':d=[]:=List.eq_nil_of_length_eq_zero (by omega)
   subst hm' hd'
   by_cases k2:k=2
   ·subst k2
    simp only [BEq.rfl,cond_true,Bool.and_eq_true,beq_iff_eq,decide_eq_true_eq] at h
    obtain ⟨rfl,rfl,h⟩:=h
    exact .inr (.inl ⟨n,h,rfl⟩)
   ·rw [show (k == 2)=false by rw [beq_eq_false_iff_ne];exact k2,cond_false] at h
    by_cases k7:k=7
    ·subst k7
     simp only [BEq.rfl,cond_true,Bool.and_eq_true,beq_iff_eq,decide_eq_true_eq] at h
     obtain ⟨rfl,rfl,h⟩:=h
     exact .inr (.inr (.inl ⟨a,h,rfl⟩))
    ·rw [show (k == 7)=false by rw [beq_eq_false_iff_ne];exact k7,cond_false] at h
     by_cases k8:k=8
     ·subst k8
      simp only [BEq.rfl,cond_true,Bool.and_eq_true,beq_iff_eq,decide_eq_true_eq] at h
      obtain ⟨rfl,h1,h2,h3,h4⟩:=h
      exact .inr (.inr (.inr (.inl ⟨a,n,⟨h1,h2,h3,h4⟩,rfl⟩)))
     ·rw [show (k == 8)=false by rw [beq_eq_false_iff_ne];exact k8,cond_false] at h
      by_cases hk:((k == 3) || ((k == 4) || ((k == 5) || (k == 6))))=true
      ·rw [hk,cond_true] at h
       simp only [Bool.or_eq_true,beq_iff_eq] at hk
       simp only [Bool.and_eq_true,beq_iff_eq,decide_eq_true_eq] at h
       obtain ⟨rfl,h1,h2,h3,h4⟩:=h
       exact .inr (.inr (.inr (.inr ⟨k,a,b,⟨by omega,by omega,h1,h2,h3,h4⟩,rfl⟩)))
      ·rw [show ((k == 3) || ((k == 4) || ((k == 5) || (k == 6))))=false by simpa using hk,cond_false] at h
       cases h
  ·rw [show ((!neg) && ((((m.length:Nat):Int) == 0) && (((d.length:Nat):Int) == 0)))=false by simpa using he,cond_false] at h
   cases h
theorem GT_goodK {i:Int} {t:TE} (h:GT i t):∃ k a b n neg m d,t=(k,(a,(b,(n,(((neg,(m,())),(d,())),())))))∧Lb m∧Lb d∧m.length ≤ 64∧d.length ≤ 64∧goodK k a b n i neg m d=true:=by
 rcases h with ⟨z,d,hc,rfl⟩ | ⟨n,hn,rfl⟩ | ⟨a,ha,rfl⟩ | ⟨a,n,ha,rfl⟩ | ⟨k,a,b,ha,rfl⟩
 ·refine ⟨1,0,0,0,decide (z < 0),limbs z.natAbs,limbs d,rfl,lb_limbs _,lb_limbs _,hc.2.2.1,hc.2.2.2,?_⟩
  unfold goodK
  rw [good_R hc]
  rfl
 ·refine ⟨2,0,0,n,false,[],[],rfl,.nil,.nil,by simp,by simp,?_⟩
  unfold goodK
  rw [dt' hn]
  rfl
 ·refine ⟨7,a,0,0,false,[],[],rfl,.nil,.nil,by simp,by simp,?_⟩
  unfold goodK
  rw [dt' (c:=a ≥ 0) (by omega),dt' ha.2]
  rfl
 ·refine ⟨8,a,0,n,false,[],[],rfl,.nil,.nil,by simp,by simp,?_⟩
  unfold goodK
  rw [dt' (c:=a ≥ 0) (by omega),dt' (c:=a < i) (by omega),dt' (c:=n ≥ -128) (by omega),dt' (c:=n ≤ 128) (by omega)]
  rfl
 ·refine ⟨k,a,b,0,false,[],[],rfl,.nil,.nil,by simp,by simp,?_⟩
  unfold goodK
  rw [dt' (c:=a ≥ 0) (by omega),dt' (c:=a < i) (by omega),dt' (c:=b ≥ 0) (by omega),dt' (c:=b < i) (by omega)]
  have:k=3 ∨ k=4 ∨ k=5 ∨ k=6:=by omega
  rcases this with rfl | rfl | rfl | rfl <;> rfl
end Go.Proofs.YtlfcdmibknmjeaaGreatDoor.E
end
section
namespace Go.Proofs.YtlfcdmibknmjeaaGreatDoor.E
open Go Go.Proofs.YtlfcdmibknmjeaaGreatDoor.Ev
set_option linter.unusedSimpArgs false
def TLb (t:TE):Prop:=Lb t.2.2.2.2.1.1.2.1∧Lb t.2.2.2.2.1.2.1∧t.2.2.2.2.1.1.2.1.length ≤ 1000000∧t.2.2.2.2.1.2.1.length ≤ 1000000
def CLb (C:CO):Prop:=(∀ t ∈ C,TLb t)∧C.length ≤ 1000000
def goodTm (t:TE) (i:Int):Bool:=goodK t.1 t.2.1 t.2.2.1 t.2.2.2.1 i t.2.2.2.2.1.1.1 t.2.2.2.2.1.1.2.1 t.2.2.2.2.1.2.1
theorem cgood_t {t:TE} (h:TLb t) (i:Int):xa.V t i=some (goodTm t i):=by
 obtain ⟨k,a,b,n,⟨⟨neg,m,_⟩,d,_⟩,_⟩:=t
 exact cgood_v k a b n i neg h.1 h.2.1 h.2.2.1 h.2.2.2
def goodC:Nat→CO→Bool
 | _,[]=>true
 | i,t :: l=>goodTm t (i:Int) && goodC (i + 1) l
theorem rdT {C:CO} {i:Nat} (h:i < C.length):rdL (Ty.zero api_Term) C (i:Int)=C[i]:=by
 simp [rdL,List.getD_eq_getElem?_getD,List.getElem?_eq_getElem h]
theorem cgood_l {C:CO} (h:CLb C):∀ m i:Nat,m + i=C.length→zR.V0 C ((C.length:Nat):Int) (i:Int)=some (bif goodC i (C.drop i) then Sum.inl () else Sum.inr false)
 | 0,i,hm=>by
  refine zR.v0 _ _ _ ?_
  unfold zR.b0
  rw [df' (by omega),List.drop_eq_nil_of_le (by omega)]
  rfl
 | m + 1,i,hm=>by
  have hl:=h.2
  refine zR.v0 _ _ _ ?_
  unfold zR.b0
  rw [dt' (by omega),dt' (by omega),rdT (by omega),cgood_t (h.1 _ (List.getElem_mem (by omega))),List.drop_eq_getElem_cons (by omega),goodC]
  simp only [cond_true,Option.bind_some]
  rw [wrap64 (by omega) (by omega)]
  cases goodTm (C[i]'(by omega)) (i:Int)
  ·rfl
  ·simp only [Bool.not_true,cond_false,Bool.true_and]
   exact cgood_l h m (i + 1) (by omega)
theorem cGood_v {C:CO} (h:CLb C):zR.V C=some (goodC 0 C):=by
 refine zR.v _ ?_
 unfold zR.b
 have k:=cgood_l h C.length 0 (by omega)
 simp only
 rw [show zR.V0 C ((C.length:Nat):Int) 0=_ from k,List.drop_zero]
 cases goodC 0 C <;> rfl
theorem neg_false {k a b n i:Int} (neg:Bool) (m d:List Int) (h:a < 0 ∨ b < 0):goodK k a b n i neg m d=false:=by
 unfold goodK
 rcases h with h | h
 ·rw [show (a == 0)=false by rw [beq_eq_false_iff_ne];omega,df' (c:=a ≥ 0) (by omega)]
  simp only [Bool.false_and,Bool.and_false,Bool.cond_self]
 ·rw [show (b == 0)=false by rw [beq_eq_false_iff_ne];omega,df' (c:=b ≥ 0) (by omega)]
  simp only [Bool.false_and,Bool.and_false,Bool.cond_self]
theorem two_is (k:Int):xP.f k=some ((k == 3) || ((k == 4) || ((k == 5) || (k == 6)))):=by
 unfold xP.f
 cases (k == 3) <;> cases (k == 4) <;> cases (k == 5) <;> rfl
theorem len0 (m:List Int):(((m.length:Nat):Int) == 0)=!decide (((m.length:Nat):Int) > 0):=by
 by_cases h:m.length=0
 ·rw [h];rfl
 ·rw [dt' (by omega),show (((m.length:Nat):Int) == 0)=false by rw [beq_eq_false_iff_ne];omega];rfl
theorem rgood_t' {C:CO} {i:Nat} (hi:i < C.length) (k a b n:Int) (neg:Bool) (m d:List Int) (ht:rdL (Ty.zero api_Term) C (i:Int)=(k,(a,(b,(n,(((neg,(m,())),(d,())),())))))) (hg:yj.V ((neg,(m,())),(d,()))=some (goodB neg m d)) (hs:C.length ≤ 1000000) :
 zC.b0 yj.V zC.V0 C (i:Int)=bif goodK k a b n (i:Int) neg m d then zC.V0 C (((i + 1:Nat)):Int) else some (Sum.inr false):=by
 unfold zC.b0
 have hw:IntKind.wrap .i64 ((i:Int) + 1)=((i + 1:Nat):Int):=by rw [wrap64 (by omega) (by omega)];omega
 rw [dt' (by omega),dt' (by omega),ht,← hw]
 simp only [cond_true]
 by_cases ha:a < 0
 ·rw [neg_false neg m d (.inl ha),dt' ha]
  rfl
 ·by_cases hb:b < 0
  ·rw [neg_false neg m d (.inr hb),df' ha,dt' hb]
   rfl
  ·unfold goodK
   rw [df' ha,df' hb,dt' (c:=a ≥ 0) (by omega),dt' (c:=b ≥ 0) (by omega)]
   simp only [cond_false,len0]
   generalize hgb:goodB neg m d=g at hg ⊢
   generalize hd1:decide (((m.length:Nat):Int) > 0)=lm
   generalize hd2:decide (((d.length:Nat):Int) > 0)=ld
   by_cases k1:k=1
   ·subst k1
    simp only [bne_self_eq_false,cond_false,cond_true,Option.bind_some,BEq.rfl,hg]
    cases (a == 0) <;> cases (b == 0) <;> cases (n == 0) <;> cases g <;> rfl
   ·have k1':(k == 1)=false:=by rw [beq_eq_false_iff_ne];exact k1
    have k1'':(k != 1)=true:=by rw [bne_iff_ne];exact k1
    rw [k1',k1'']
    cases neg
    ·cases lm
     ·cases ld
      ·simp only [cond_false,cond_true,Option.bind_some,k1',two_is]
       generalize hd3:decide (a < (i:Int))=da
       generalize hd4:decide (b < (i:Int))=db
       generalize hd5:decide (n ≥ 0)=dn
       generalize hd6:decide (n ≥ -128)=dn'
       generalize hd7:decide (n ≤ 128)=dn''
       by_cases k2:k=2
       ·subst k2
        cases (a == 0) <;> cases (b == 0) <;> cases dn <;> rfl
       ·rw [show (k == 2)=false by rw [beq_eq_false_iff_ne];exact k2]
        by_cases k7:k=7
        ·subst k7
         cases (b == 0) <;> cases (n == 0) <;> cases da <;> rfl
        ·rw [show (k == 7)=false by rw [beq_eq_false_iff_ne];exact k7]
         by_cases k8:k=8
         ·subst k8
          cases (b == 0) <;> cases da <;> cases dn' <;> cases dn'' <;> rfl
         ·rw [show (k == 8)=false by rw [beq_eq_false_iff_ne];exact k8]
          cases ((k == 3) || ((k == 4) || ((k == 5) || (k == 6))))
          ·rfl
          ·cases (n == 0) <;> cases da <;> cases db <;> rfl
      ·rfl
     ·rfl
    ·rfl
theorem rgood_t {C:CO} {i:Nat} (hi:i < C.length) {t:TE} (ht:rdL (Ty.zero api_Term) C (i:Int)=t) (h:TLb t) (hs:C.length ≤ 1000000) :
 zC.b0 yj.V zC.V0 C (i:Int)=bif goodTm t (i:Int) then zC.V0 C (((i + 1:Nat)):Int) else some (Sum.inr false):=by
 obtain ⟨k,a,b,n,⟨⟨neg,m,_⟩,d,_⟩,_⟩:=t
 exact rgood_t' hi k a b n neg m d ht (rgood_v neg h.1 h.2.1 h.2.2.1 h.2.2.2) hs
theorem rgood_l {C:CO} (h:CLb C):∀ m i:Nat,m + i=C.length→zC.V0 C (i:Int)=some (bif goodC i (C.drop i) then Sum.inl () else Sum.inr false)
 | 0,i,hm=>by
  refine zC.v0 _ _ ?_
  unfold zC.b0
  rw [df' (by omega),List.drop_eq_nil_of_le (by omega)]
  rfl
 | m + 1,i,hm=>by
  refine zC.v0 _ _ ?_
  rw [rgood_t (by omega) (rdT (by omega)) (h.1 _ (List.getElem_mem (by omega))) h.2,List.drop_eq_getElem_cons (by omega),goodC]
  cases goodTm (C[i]'(by omega)) (i:Int)
  ·rfl
  ·simp only [cond_true,Bool.true_and]
   exact rgood_l h m (i + 1) (by omega)
theorem rGood_v {C:CO} (h:CLb C):zC.V C=some (goodC 0 C):=by
 refine zC.v _ ?_
 unfold zC.b
 have k:=rgood_l h C.length 0 (by omega)
 rw [show zC.V0 C 0=_ from k,List.drop_zero]
 cases goodC 0 C <;> rfl
theorem goodC_GT:∀ {i:Nat} {C:CO},goodC i C=true→∀ j,(hj:j < C.length)→GT ((i + j:Nat):Int) C[j]
 | _,[],_,j,hj=>absurd hj (by simp)
 | i,t :: C,h,j,hj=>by
  rw [goodC,Bool.and_eq_true] at h
  cases j with
  | zero =>
   obtain ⟨k,a,b,n,⟨⟨neg,m,_⟩,d,_⟩,_⟩:=t
   exact goodK_GT h.1
  | succ j =>
   have:=goodC_GT h.2 j (by simpa using hj)
   rw [show i + (j + 1)=i + 1 + j by omega]
   exact this
theorem GT_goodTm {i:Int} {t:TE} (h:GT i t):goodTm t i=true∧TLb t:=by
 obtain ⟨k,a,b,n,neg,m,d,rfl,h1,h2,h3,h4,h5⟩:=GT_goodK h
 exact ⟨h5,h1,h2,Nat.le_trans h3 (by omega),Nat.le_trans h4 (by omega)⟩
theorem GT_goodC:∀ {i:Nat} {C:CO},(∀ j,(hj:j < C.length)→GT ((i + j:Nat):Int) C[j])→goodC i C=true
 | _,[],_=>rfl
 | i,t :: C,h=>by
  rw [goodC,Bool.and_eq_true]
  exact ⟨(GT_goodTm (h 0 (by simp))).1,GT_goodC fun j hj=>by
   have:=h (j + 1) (by simpa using hj)
   rw [show i + (j + 1)=i + 1 + j by omega] at this
   exact this⟩
end Go.Proofs.YtlfcdmibknmjeaaGreatDoor.E
end
section
namespace Go.Proofs.YtlfcdmibknmjeaaGreatDoor.E
open Go Go.Proofs.YtlfcdmibknmjeaaGreatDoor.Ev
set_option linter.unusedSimpArgs false
def two (k:Int):Bool:=(k == 3) || ((k == 4) || ((k == 5) || (k == 6)))
def markK (k a b:Int) (out:List Bool):List Bool:=bif (k == 7) || (k == 8) then out.set a.toNat true else bif two k then (out.set a.toNat true).set b.toNat true else out
def markT (t:TE) (out:List Bool):List Bool:=markK t.1 t.2.1 t.2.2.1 out
def tAt (C:CO) (i:Nat):TE:=rdL (Ty.zero api_Term) C (i:Int)
def needS (C:CO):Nat→List Bool→List Bool
 | 0,out=>out
 | i + 1,out=>needS C i (bif rdL false out (i:Int) then markT (tAt C i) out else out)
def Core (C:CO):Prop:=(∀ j:Nat,j < C.length→GT (j:Int) (tAt C j))∧C.length ≤ 1000000
theorem core_of {C:CO} (h:goodC 0 C=true) (hl:C.length ≤ 1000000):Core C:=⟨fun j hj=>by
 have:=goodC_GT h j hj
 rw [Nat.zero_add] at this
 unfold tAt
 rw [rdT hj]
 exact this,hl⟩
theorem Core.good {C:CO} (h:Core C):goodC 0 C=true:=GT_goodC fun j hj=>by
 have:=h.1 j hj
 unfold tAt at this
 rw [rdT hj] at this
 rw [Nat.zero_add]
 exact this
theorem Core.lb {C:CO} (h:Core C):CLb C:=⟨fun t ht=>by
 obtain ⟨j,hj,rfl⟩:=List.getElem_of_mem ht
 have:=(GT_goodTm (h.1 j hj)).2
 unfold tAt at this
 rw [rdT hj] at this
 exact this,h.2⟩
theorem GT_cases {i:Int} {t:TE} (h:GT i t):∃ k a b n:Int,∃ v,t=(k,(a,(b,(n,(v,())))))∧1 ≤ k∧k ≤ 8∧((k=7 ∨ k=8 ∨ two k=true)→0 ≤ a∧a < i)∧(two k=true→0 ≤ b∧b < i):=by
 rcases h with ⟨z,d,hc,rfl⟩ | ⟨n,hn,rfl⟩ | ⟨a,ha,rfl⟩ | ⟨a,n,ha,rfl⟩ | ⟨k,a,b,ha,rfl⟩
 ·exact ⟨1,0,0,0,_,rfl,by omega,by omega,fun h=>(by rcases h with h | h | h <;> cases h),fun h=>(by cases h)⟩
 ·exact ⟨2,0,0,n,_,rfl,by omega,by omega,fun h=>(by rcases h with h | h | h <;> cases h),fun h=>(by cases h)⟩
 ·exact ⟨7,a,0,0,_,rfl,by omega,by omega,fun _=>ha,fun h=>by cases h⟩
 ·exact ⟨8,a,0,n,_,rfl,by omega,by omega,fun _=>⟨ha.1,ha.2.1⟩,fun h=>by cases h⟩
 ·exact ⟨k,a,b,0,_,rfl,by omega,by omega,fun _=>⟨ha.2.2.1,ha.2.2.2.1⟩,fun _=>ha.2.2.2.2⟩
theorem two_iff (k:Int):two k=true ↔ 3 ≤ k∧k ≤ 6:=by
 unfold two
 simp only [Bool.or_eq_true,beq_iff_eq]
 omega
theorem kids_l (C:CO) (i:Int) {kids:List Int} (hs:kids.length ≤ 10):∀ (m j:Nat) (out:List Bool),m + j=kids.length→(∀ x ∈ kids,0 ≤ x∧x < ((out.length:Nat):Int)) →
 zg.V0 C out i kids ((kids.length:Nat):Int) (j:Int)=some (C,((kids.drop j).foldl (fun o x=>o.set (Int.toNat x) true) out,i))
 | 0,j,out,hm,hk=>by
  refine zg.v0 _ _ _ _ _ _ ?_
  unfold zg.b0
  rw [df' (by omega),List.drop_eq_nil_of_le (by omega)]
  rfl
 | m + 1,j,out,hm,hk=>by
  refine zg.v0 _ _ _ _ _ _ ?_
  unfold zg.b0
  have e:rdL (0:Int) kids (j:Int)=kids[j]'(by omega):=by simp [rdL,List.getD_eq_getElem?_getD,List.getElem?_eq_getElem (show j < kids.length by omega)]
  have hx:=hk _ (List.getElem_mem (show j < kids.length by omega))
  rw [dt' (by omega),dt' (by omega),e,dt' (by omega),wrap64 (by omega) (by omega),List.drop_eq_getElem_cons (by omega),List.foldl_cons]
  simp only [cond_true]
  exact kids_l C i hs m (j + 1) _ (by omega) (fun x hx=>by rw [List.length_set];exact hk x hx)
theorem need_l {C:CO} (hC:Core C):∀ (i:Nat) (out:List Bool),i ≤ C.length→out.length=C.length→zg.V1 C out ((i:Int) - 1)=some (needS C i out)
 | 0,out,hi,ho=>by
  refine zg.v1 _ _ _ ?_
  unfold zg.b1
  rw [df' (by omega)]
  rfl
 | i + 1,out,hi,ho=>by
  have hl:=hC.2
  refine zg.v1 _ _ _ ?_
  unfold zg.b1
  rw [show (((i + 1:Nat):Int) - 1)=(i:Int) by omega,dt' (by omega),dt' (by omega),dt' (by omega),needS]
  simp only [cond_true]
  have hw:IntKind.wrap .i64 ((i:Int) - 1)=(i:Int) - 1:=wrap64 (by omega) (by omega)
  cases ho':rdL false out (i:Int)
  ·simp only [Bool.not_false,cond_true,cond_false]
   rw [hw]
   exact need_l hC i out (by omega) ho
  ·simp only [Bool.not_true,cond_true,cond_false]
   obtain ⟨k,a,b,n,v,ht,h1,h2,h3,h4⟩:=GT_cases (hC.1 i (by omega))
   have ht':rdL (Ty.zero api_Term) C (i:Int)=(k,(a,(b,(n,(v,()))))):=ht
   rw [ht',ht]
   have fin:∀ kids:List Int,kids.length ≤ 10→(∀ x ∈ kids,0 ≤ x∧x < ((out.length:Nat):Int))→kids.foldl (fun o x=>o.set (Int.toNat x) true) out=markK k a b out →
    (Option.bind (zg.V0 C out (i:Int) kids ((kids.length:Nat):Int) 0) fun y7=>zg.V1 y7.1 y7.2.1 (IntKind.wrap .i64 (y7.2.2 - 1)))=some (needS C i (markK k a b out)):=fun kids hk hk2 hk3=>by
    have k1:=kids_l C (i:Int) hk kids.length 0 out (by omega) hk2
    rw [show zg.V0 C out (i:Int) kids ((kids.length:Nat):Int) 0=_ from k1,Option.bind_some]
    simp only [List.drop_zero]
    rw [hk3,hw]
    refine need_l hC i (markK k a b out) (by omega) ?_
    unfold markK
    cases (k == 7) || (k == 8)
    ·cases two k
     ·exact ho
     ·show ((out.set a.toNat true).set b.toNat true).length=C.length
      rw [List.length_set,List.length_set,ho]
    ·show (out.set a.toNat true).length=C.length
     rw [List.length_set,ho]
   show (Option.bind (xe.f (k,(a,(b,(n,(v,())))))) _)=some (needS C i (markK k a b out))
   unfold xe.f
   by_cases k7:k=7
   ·subst k7
    have ha:=h3 (.inl rfl)
    exact fin [a] (by simp) (fun x hx=>by rw [List.mem_singleton] at hx;subst hx;omega) rfl
   ·by_cases k8:k=8
    ·subst k8
     have ha:=h3 (.inr (.inl rfl))
     exact fin [a] (by simp) (fun x hx=>by rw [List.mem_singleton] at hx;subst hx;omega) rfl
    ·by_cases kt:two k=true
     ·have ha:=h3 (.inr (.inr kt))
      have hb:=h4 kt
      have hk:=(two_iff k).1 kt
      have:k=3 ∨ k=4 ∨ k=5 ∨ k=6:=by omega
      have hmem:∀ x ∈ [a,b],0 ≤ x∧x < ((out.length:Nat):Int):=fun x hx=>by
       rcases List.mem_cons.1 hx with rfl | hx
       ·omega
       ·rw [List.mem_singleton] at hx;subst hx;omega
      rcases this with rfl | rfl | rfl | rfl
      ·exact fin [a,b] (by simp) hmem rfl
      ·exact fin [a,b] (by simp) hmem rfl
      ·exact fin [a,b] (by simp) hmem rfl
      ·exact fin [a,b] (by simp) hmem rfl
     ·have hk:=mt (two_iff k).2 kt
      have:k=1 ∨ k=2:=by omega
      rcases this with rfl | rfl
      ·exact fin [] (by simp) (fun x hx=>by cases hx) rfl
      ·exact fin [] (by simp) (fun x hx=>by cases hx) rfl
def needsS (C:CO) (root:Nat):List Bool:=needS C (root + 1) ((List.replicate C.length false).set root true)
def needsR (C:CO) (root:Int):Unit ⊕ List Bool:=if root < 0 ∨ ((C.length:Nat):Int) ≤ root ∨ goodC 0 C=false then .inl () else .inr (needsS C root.toNat)
theorem needs_v {C:CO} (h:CLb C) (root:Int):zg.V C root=some (needsR C root):=by
 refine zg.v _ _ ?_
 unfold zg.b needsR
 have hl:=h.2
 by_cases h1:root < 0
 ·rw [dt' h1,if_pos (.inl h1)]
  rfl
 ·by_cases h2:((C.length:Nat):Int) ≤ root
  ·rw [df' h1,dt' (c:=root ≥ ((C.length:Nat):Int)) h2,if_pos (.inr (.inl h2))]
   rfl
  ·rw [df' h1,df' (c:=root ≥ ((C.length:Nat):Int)) h2,cGood_v h]
   by_cases h3:goodC 0 C=true
   ·rw [h3,if_neg (by simp;omega)]
    simp only [cond_false,Option.bind_some,Bool.not_true,List.length_replicate,Int.toNat_natCast]
    rw [dt' (by omega),dt' (by omega)]
    have k:=need_l (core_of h3 hl) (root.toNat + 1) ((List.replicate C.length false).set root.toNat true) (by omega) (by rw [List.length_set,List.length_replicate])
    rw [show (((root.toNat + 1:Nat):Int) - 1)=root by omega] at k
    rw [k]
    rfl
   ·have h3':goodC 0 C=false:=by simpa using h3
    rw [h3',if_pos (.inr (.inr rfl))]
    rfl
end Go.Proofs.YtlfcdmibknmjeaaGreatDoor.E
end
section
namespace Go.Proofs.YtlfcdmibknmjeaaGreatDoor.E
open Go Go.Proofs.YtlfcdmibknmjeaaGreatDoor.Ev
set_option linter.unusedSimpArgs false
noncomputable section
def tI (C:CO) (i:Int):TE:=rdL (Ty.zero api_Term) C i
def mkT (k a b n:Int) (v:RA):TE:=(k,(a,(b,(n,(v,())))))
def tk (t:TE):Int:=t.1
def ta (t:TE):Int:=t.2.1
def tb (t:TE):Int:=t.2.2.1
def tn (t:TE):Int:=t.2.2.2.1
def tv (t:TE):RA:=t.2.2.2.2.1
theorem mkT_eta (t:TE):mkT (tk t) (ta t) (tb t) (tn t) (tv t)=t:=rfl
def Inv (C:CO):Prop:=(∀ i:Nat,i < C.length→GT (i:Int) (tI C (i:Int)))∧∀ i j:Nat,i < C.length→j < C.length→tI C (i:Int)=tI C (j:Int)→i=j
def At (C:CO) (i:Int):Prop:=0 ≤ i∧i < ((C.length:Nat):Int)
def nlA (C:CO):Nat:=C.countP fun t=>!(t.1 == 1)
theorem Inv.core {C:CO} (h:Inv C) (hl:C.length ≤ 1000000):Core C:=⟨h.1,hl⟩
theorem Inv.nil:Inv []:=⟨fun _ h=>absurd h (by simp),fun _ _ h=>absurd h (by simp)⟩
theorem tI_old (C l:CO) {i:Int} (h:At C i):tI (C ++ l) i=tI C i:=by
 unfold tI rdL
 rw [List.getD_eq_getElem?_getD,List.getD_eq_getElem?_getD,List.getElem?_append_left (by have:=h.1;have:=h.2;omega)]
theorem tI_new (C:CO) (t:TE):tI (C ++ [t]) ((C.length:Nat):Int)=t:=by
 unfold tI rdL
 rw [List.getD_eq_getElem?_getD,Int.toNat_natCast,List.getElem?_append_right (Nat.le_refl _),Nat.sub_self]
 rfl
def Ext (C C':CO):Prop:=∃ l,C'=C ++ l
theorem Ext.refl (C:CO):Ext C C:=⟨[],by rw [List.append_nil]⟩
theorem Ext.trans {C D E:CO} (h:Ext C D) (h':Ext D E):Ext C E:=by
 obtain ⟨l,rfl⟩:=h
 obtain ⟨m,rfl⟩:=h'
 exact ⟨l ++ m,by rw [List.append_assoc]⟩
theorem Ext.le {C D:CO} (h:Ext C D):C.length ≤ D.length:=by
 obtain ⟨l,rfl⟩:=h
 rw [List.length_append];omega
theorem Ext.at {C D:CO} (h:Ext C D) {i:Int} (hi:At C i):At D i:=by
 have:=h.le
 exact ⟨hi.1,by have:=hi.2;omega⟩
theorem Ext.tI {C D:CO} (h:Ext C D) {i:Int} (hi:At C i):tI D i=tI C i:=by
 obtain ⟨l,rfl⟩:=h
 exact tI_old C l hi
theorem Inv.gt {C:CO} (h:Inv C) {i:Int} (hi:At C i):GT i (E.tI C i):=by
 have:=h.1 i.toNat (by have:=hi.1;have:=hi.2;omega)
 rwa [show ((i.toNat:Nat):Int)=i by have:=hi.1;omega] at this
theorem Inv.uniq {C:CO} (h:Inv C) {i j:Int} (hi:At C i) (hj:At C j) (e:E.tI C i=E.tI C j):i=j:=by
 have:=h.2 i.toNat j.toNat (by have:=hi.1;have:=hi.2;omega) (by have:=hj.1;have:=hj.2;omega) (by
  rw [show ((i.toNat:Nat):Int)=i by have:=hi.1;omega,show ((j.toNat:Nat):Int)=j by have:=hj.1;omega];exact e)
 have:=hi.1
 have:=hj.1
 omega
theorem Inv.snoc {C:CO} (h:Inv C) {t:TE} (ht:GT ((C.length:Nat):Int) t) (hn:∀ i,At C i→E.tI C i ≠ t):Inv (C ++ [t]):=by
 have old:∀ i:Nat,i < C.length→E.tI (C ++ [t]) (i:Int)=E.tI C (i:Int):=fun i hi=>tI_old C [t] ⟨by omega,by omega⟩
 refine ⟨fun i hi=>?_,fun i j hi hj e=>?_⟩
 ·rw [List.length_append,List.length_singleton] at hi
  by_cases hc:i < C.length
  ·rw [old i hc]
   exact h.1 i hc
  ·have:i=C.length:=by omega
   subst this
   rw [tI_new]
   exact ht
 ·rw [List.length_append,List.length_singleton] at hi hj
  by_cases hc:i < C.length
  ·by_cases hd:j < C.length
   ·rw [old i hc,old j hd] at e
    exact h.2 i j hc hd e
   ·have:j=C.length:=by omega
    subst this
    rw [old i hc,tI_new] at e
    exact absurd e (hn i ⟨by omega,by omega⟩)
  ·have hi':i=C.length:=by omega
   by_cases hd:j < C.length
   ·subst hi'
    rw [old j hd,tI_new] at e
    exact absurd e.symm (hn j ⟨by omega,by omega⟩)
   ·omega
def putS (C:CO) (t:TE):CO × Int:=open Classical in if h:∃ i,At C i∧tI C i=t then (C,h.choose) else (C ++ [t],((C.length:Nat):Int))
def Ok (C:CO) (r:CO × Int):Prop:=Inv r.1∧Ext C r.1∧At r.1 r.2
theorem putS_old {C:CO} (h:Inv C) {t:TE} {i:Int} (hi:At C i) (e:tI C i=t):putS C t=(C,i):=by
 unfold putS
 have hx:∃ i,At C i∧tI C i=t:=⟨i,hi,e⟩
 rw [dif_pos hx]
 have:=hx.choose_spec
 rw [h.uniq this.1 hi (by rw [this.2,e])]
theorem putS_new {C:CO} {t:TE} (hn:∀ i,At C i→tI C i ≠ t):putS C t=(C ++ [t],((C.length:Nat):Int)):=by
 unfold putS
 rw [dif_neg fun ⟨i,hi,e⟩=>hn i hi e]
theorem putS_cases {C:CO} (h:Inv C) (t:TE):(∃ i,At C i∧tI C i=t∧putS C t=(C,i)) ∨ ((∀ i,At C i→tI C i ≠ t)∧putS C t=(C ++ [t],((C.length:Nat):Int))):=by
 by_cases hx:∃ i,At C i∧tI C i=t
 ·obtain ⟨i,hi,e⟩:=hx
  exact .inl ⟨i,hi,e,putS_old h hi e⟩
 ·have hn:∀ i,At C i→tI C i ≠ t:=fun i hi e=>hx ⟨i,hi,e⟩
  exact .inr ⟨hn,putS_new hn⟩
theorem putS_ok {C:CO} (h:Inv C) {t:TE} (ht:GT ((C.length:Nat):Int) t):Ok C (putS C t)∧tI (putS C t).1 (putS C t).2=t∧(putS C t).1.length ≤ C.length + 1∧nlA (putS C t).1 ≤ nlA C + (if tk t=1 then 0 else 1):=by
 rcases putS_cases h t with ⟨i,hi,e,hp⟩ | ⟨hn,hp⟩
 ·rw [hp]
  exact ⟨⟨h,.refl C,hi⟩,e,by simp,by simp⟩
 ·rw [hp]
  refine ⟨⟨h.snoc ht hn,⟨_,rfl⟩,by omega,by rw [List.length_append,List.length_singleton];omega⟩,tI_new C t,by rw [List.length_append,List.length_singleton];exact Nat.le_refl _,?_⟩
  unfold nlA
  rw [List.countP_append]
  refine Nat.add_le_add_left ?_ _
  by_cases hk:tk t=1
  ·rw [if_pos hk,List.countP_cons_of_neg (by show ¬ (!(tk t == 1))=true;rw [hk];simp)]
   simp
  ·rw [if_neg hk]
   exact Nat.le_trans List.countP_le_length (by simp)
def rZ (x:RA):Int:=sgn x.1.1 (val x.1.2.1)
def rD (x:RA):Nat:=val x.2.1
theorem rZ_R (z:Int) (d:Nat):rZ (R z d)=z:=sgn_W z
theorem rD_R (z:Int) (d:Nat):rD (R z d)=d:=val_limbs d
def CanR (x:RA):Prop:=∃ z d,Can z d∧x=R z d
def addR (x y:RA):RA × Int:=ofR (rZ x * (rD y:Int) + rZ y * (rD x:Int)) (rD x * rD y)
def subR (x y:RA):RA × Int:=ofR (rZ x * (rD y:Int) + -rZ y * (rD x:Int)) (rD x * rD y)
def mulR (x y:RA):RA × Int:=ofR (rZ x * rZ y) (rD x * rD y)
def divR (x y:RA):RA × Int:=ofR (rZ x * sg (rZ y) (rD y)) (rD x * (rZ y).natAbs)
def negR (x:RA):RA:=R (-rZ x) (rD x)
theorem ofR_can {z:Int} {d:Nat} (e:(ofR z d).2=0):CanR (ofR z d).1:=by
 obtain ⟨h1,h2⟩:=ofR_ok e
 exact ⟨_,_,h2,h1⟩
theorem CanR.neg {x:RA} (h:CanR x):CanR (negR x):=by
 obtain ⟨z,d,h,rfl⟩:=h
 exact ⟨-z,d,h.neg,by unfold negR;rw [rZ_R,rD_R]⟩
theorem addR_v {x y:RA} (h:CanR x) (h':CanR y):xh.V x y=some (fl (addR x y))∧xJ.V x y=some (fl (addR x y)):=by
 obtain ⟨z,d,h,rfl⟩:=h
 obtain ⟨w,e,h',rfl⟩:=h'
 unfold addR
 rw [rZ_R,rZ_R,rD_R,rD_R]
 exact ⟨radd_R h h',rradd_R h h'⟩
theorem subR_v {x y:RA} (h:CanR x) (h':CanR y):xu.V x y=some (fl (subR x y))∧xS.V x y=some (fl (subR x y)):=by
 obtain ⟨z,d,h,rfl⟩:=h
 obtain ⟨w,e,h',rfl⟩:=h'
 unfold subR
 rw [rZ_R,rZ_R,rD_R,rD_R]
 exact ⟨rsub_R h h',rrsub_R h h'⟩
theorem mulR_v {x y:RA} (h:CanR x) (h':CanR y):xp.V x y=some (fl (mulR x y))∧xK.V x y=some (fl (mulR x y)):=by
 obtain ⟨z,d,h,rfl⟩:=h
 obtain ⟨w,e,h',rfl⟩:=h'
 unfold mulR
 rw [rZ_R,rZ_R,rD_R,rD_R]
 exact ⟨rmul_R h h',rrmul_R h h'⟩
theorem divR_v {x y:RA} (h:CanR x) (h':CanR y):xq.V x y=some (fl (divR x y))∧yI.V x y=some (fl (divR x y)):=by
 obtain ⟨z,d,h,rfl⟩:=h
 obtain ⟨w,e,h',rfl⟩:=h'
 unfold divR
 rw [rZ_R,rZ_R,rD_R,rD_R]
 exact ⟨rdiv_R h h',rrdiv_R h h'⟩
theorem negR_v {x:RA} (h:CanR x):xj.V x=some (tr (negR x))∧xV.V x=some (tr (negR x)):=by
 obtain ⟨z,d,h,rfl⟩:=h
 unfold negR
 rw [rZ_R,rD_R]
 exact ⟨rneg_R h,rrneg_R h⟩
theorem neg_neg {x:RA} (h:CanR x):negR (negR x)=x:=by
 obtain ⟨z,d,h,rfl⟩:=h
 unfold negR
 rw [rZ_R,rD_R,rZ_R,rD_R,Int.neg_neg]
theorem GT_lit {i:Int} {x:RA} (h:CanR x):GT i (mkT 1 0 0 0 x):=by
 obtain ⟨z,d,h,rfl⟩:=h
 exact .inl ⟨z,d,h,rfl⟩
theorem GT.can {i:Int} {t:TE} (h:GT i t) (hk:tk t=1):CanR (tv t)∧t=mkT 1 0 0 0 (tv t):=by
 rcases h with ⟨z,d,hc,rfl⟩ | ⟨n,hn,rfl⟩ | ⟨a,ha,rfl⟩ | ⟨a,n,ha,rfl⟩ | ⟨k,a,b,ha,rfl⟩
 ·exact ⟨⟨z,d,hc,rfl⟩,rfl⟩
 ·exact absurd hk (by show ¬ (2:Int)=1;omega)
 ·exact absurd hk (by show ¬ (7:Int)=1;omega)
 ·exact absurd hk (by show ¬ (8:Int)=1;omega)
 ·exact absurd hk (by show ¬ k=1;omega)
theorem GT.zero {i:Int} {t:TE} (h:GT i t) (hk:tk t ≠ 1):tv t=R0:=by
 rcases h with ⟨z,d,hc,rfl⟩ | ⟨n,hn,rfl⟩ | ⟨a,ha,rfl⟩ | ⟨a,n,ha,rfl⟩ | ⟨k,a,b,ha,rfl⟩
 ·exact absurd rfl hk
 ·rfl
 ·rfl
 ·rfl
 ·rfl
end
end Go.Proofs.YtlfcdmibknmjeaaGreatDoor.E
end
section
namespace Go.Proofs.YtlfcdmibknmjeaaGreatDoor.E
open Go Go.Proofs.YtlfcdmibknmjeaaGreatDoor.Ev
set_option linter.unusedSimpArgs false
noncomputable section
def exS (v:RA):ByteArray:=(ym.V v).getD (ByteArray.mk #[])
def faceT (t:TE):simple_face.denote:=(tk t,(ta t,(tb t,(tn t,(exS (tv t),())))))
def mapF:Nat→CO→MP
 | _,[]=>[]
 | k,t :: l=>(faceT t,(k:Int)) :: mapF (k + 1) l
def mapC (C:CO):MP:=mapF 0 C
theorem mapF_snoc:∀ (k:Nat) (l:CO) (t:TE),mapF k (l ++ [t])=mapF k l ++ [(faceT t,((k + l.length:Nat):Int))]
 | k,[],t=>rfl
 | k,x :: l,t=>by
  rw [List.cons_append,mapF,mapF_snoc (k + 1) l t,mapF,List.cons_append,List.length_cons,show k + 1 + l.length=k + (l.length + 1) by omega]
theorem exS_can {x:RA} (h:CanR x):ym.V x=some (exS x)∧∃ z d,x=R z d∧Ex (exS x) z d:=by
 obtain ⟨z,d,h,rfl⟩:=h
 obtain ⟨s,h1,h2⟩:=exact_v h
 unfold exS
 rw [h1]
 exact ⟨rfl,z,d,rfl,h2⟩
theorem exS_0:ym.V R0=some (exS R0):=by
 unfold exS
 rw [exact_0]
 rfl
theorem GT.ex {i:Int} {t:TE} (h:GT i t):ym.V (tv t)=some (exS (tv t)):=by
 by_cases hk:tk t=1
 ·exact (exS_can (h.can hk).1).1
 ·rw [h.zero hk]
  exact exS_0
theorem sref (a:ByteArray):strEq a a=true:=by simp [strEq]
theorem sface (x y:simple_face.denote):eqv simple_face x y=((@BEq.beq Int _ x.1 y.1) && ((@BEq.beq Int _ x.2.1 y.2.1) && ((@BEq.beq Int _ x.2.2.1 y.2.2.1) && ((@BEq.beq Int _ x.2.2.2.1 y.2.2.2.1) && strEq x.2.2.2.2.1 y.2.2.2.2.1)))):=by
 show ((@BEq.beq Int _ x.1 y.1) && ((@BEq.beq Int _ x.2.1 y.2.1) && ((@BEq.beq Int _ x.2.2.1 y.2.2.1) && ((@BEq.beq Int _ x.2.2.2.1 y.2.2.2.1) && (strEq x.2.2.2.2.1 y.2.2.2.2.1 && true)))))=_
 rw [Bool.and_true]
theorem face_eq (t u:TE):eqv simple_face (faceT t) (faceT u)=true ↔ tk t=tk u∧ta t=ta u∧tb t=tb u∧tn t=tn u∧exS (tv t)=exS (tv u):=by
 rw [sface,Bool.and_eq_true,Bool.and_eq_true,Bool.and_eq_true,Bool.and_eq_true]
 simp only [beq_iff_eq]
 constructor
 ·rintro ⟨h1,h2,h3,h4,h5⟩
  exact ⟨h1,h2,h3,h4,strEq_eq h5⟩
 ·rintro ⟨h1,h2,h3,h4,h5⟩
  exact ⟨h1,h2,h3,h4,by show strEq (exS (tv t)) (exS (tv u))=true;rw [h5];exact sref _⟩
theorem face_ref (t:TE):eqv simple_face (faceT t) (faceT t)=true:=(face_eq t t).2 ⟨rfl,rfl,rfl,rfl,rfl⟩
theorem face_inj {i j:Int} {t u:TE} (h:GT i t) (h':GT j u) (e:eqv simple_face (faceT t) (faceT u)=true):t=u:=by
 obtain ⟨h1,h2,h3,h4,h5⟩:=(face_eq t u).1 e
 have hv:tv t=tv u:=by
  by_cases hk:tk t=1
  ·obtain ⟨_,z,d,e1,e2⟩:=exS_can (h.can hk).1
   obtain ⟨_,w,f,e3,e4⟩:=exS_can (h'.can (h1 ▸ hk)).1
   rw [h5] at e2
   obtain ⟨rfl,rfl⟩:=Ex.inj e2 e4
   rw [e1,e3]
  ·rw [h.zero hk,h'.zero (h1 ▸ hk)]
 rw [← mkT_eta t,← mkT_eta u,h1,h2,h3,h4,hv]
theorem has_l (f:simple_face.denote):∀ (k:Nat) (l:CO),(∀ t ∈ l,eqv simple_face f (faceT t)=false)→hasM simple_face (.int .i64) f (mapF k l)=false
 | _,[],_=>rfl
 | k,t :: l,h=>by
  rw [mapF,hasM,h t (by simp)]
  exact has_l f (k + 1) l fun u hu=>h u (List.mem_cons_of_mem _ hu)
theorem set_l (f:simple_face.denote) (v:Int):∀ (k:Nat) (l:CO),(∀ t ∈ l,eqv simple_face f (faceT t)=false)→setM simple_face (.int .i64) f v (mapF k l)=mapF k l ++ [(f,v)]
 | _,[],_=>rfl
 | k,t :: l,h=>by
  rw [mapF,setM,h t (by simp)]
  show (faceT t,(k:Int)) :: setM simple_face (.int .i64) f v (mapF (k + 1) l)=_
  rw [set_l f v (k + 1) l fun u hu=>h u (List.mem_cons_of_mem _ hu),List.cons_append]
theorem look_l (f:simple_face.denote):∀ (k:Nat) (l:CO) (j:Nat) (hj:j < l.length),eqv simple_face f (faceT l[j])=true→(∀ i (hi:i < j),eqv simple_face f (faceT (l[i]'(by omega)))=false)→hasM simple_face (.int .i64) f (mapF k l)=true∧lookM simple_face (.int .i64) f (mapF k l)=(((k + j:Nat)):Int)
 | k,[],j,hj,_,_=>absurd hj (by simp)
 | k,t :: l,0,_,h,_=>by
  have h':eqv simple_face f (faceT t)=true:=h
  rw [mapF,hasM,lookM,h']
  exact ⟨rfl,rfl⟩
 | k,t :: l,j + 1,hj,h,hn=>by
  have h0:eqv simple_face f (faceT t)=false:=hn 0 (by omega)
  rw [mapF,hasM,lookM,h0]
  obtain ⟨h1,h2⟩:=look_l f (k + 1) l j (by simpa using hj) h fun i hi=>hn (i + 1) (by omega)
  refine ⟨h1,?_⟩
  show lookM simple_face (.int .i64) f (mapF (k + 1) l)=_
  rw [h2]
  congr 1
  omega
theorem tI_get {C:CO} {i:Nat} (h:i < C.length):tI C (i:Int)=C[i]:=rdT h
theorem sput_v {C:CO} (h:Inv C) {t:TE} (ht:GT ((C.length:Nat):Int) t) (hl:C.length < 1000000) :
 zl.V C (mapC C) t=some ((putS C t).1,(mapC (putS C t).1,(putS C t).2)):=by
 refine zl.v _ _ _ ?_
 unfold zl.b
 have hx:ym.V t.2.2.2.2.1=some (exS (tv t)):=ht.ex
 rw [hx,Option.bind_some]
 show (bif (!(hasM simple_face (.int .i64) (faceT t) (mapC C))) then (bif (decide (C.length + 1 ≤ 68719476736)) then some (C ++ [t],(setM simple_face (.int .i64) (faceT t) ((C.length:Nat):Int) (mapC C),((C.length:Nat):Int))) else none) else some (C,(mapC C,lookM simple_face (.int .i64) (faceT t) (mapC C))))=_
 rcases putS_cases h t with ⟨i,hi,e,hp⟩ | ⟨hn,hp⟩
 ·rw [hp]
  have hi0:=hi.1
  have hi1:=hi.2
  have hget:C[i.toNat]'(by omega)=t:=by
   rw [← tI_get (by omega),show ((i.toNat:Nat):Int)=i by omega,e]
  obtain ⟨h1,h2⟩:=look_l (faceT t) 0 C i.toNat (by omega) (by rw [hget];exact face_ref t) fun j hj=>by
   cases hc:eqv simple_face (faceT t) (faceT (C[j]'(by omega))) with
   | false=>rfl
   | true =>
    exfalso
    have hj':j < C.length:=by omega
    have hg:=h.1 j hj'
    rw [tI_get hj'] at hg
    have he:=face_inj ht hg hc
    have:=h.2 j i.toNat hj' (by omega) (by rw [tI_get hj',tI_get (by omega),hget,he])
    omega
  unfold mapC
  rw [h1,h2]
  show some (C,(mapF 0 C,(((0 + i.toNat:Nat)):Int)))=_
  rw [Nat.zero_add,show ((i.toNat:Nat):Int)=i by omega]
 ·rw [hp]
  have hall:∀ u ∈ C,eqv simple_face (faceT t) (faceT u)=false:=fun u hu=>by
   obtain ⟨j,hj,rfl⟩:=List.getElem_of_mem hu
   cases hc:eqv simple_face (faceT t) (faceT C[j]) with
   | false=>rfl
   | true =>
    exfalso
    have hg:=h.1 j hj
    rw [tI_get hj] at hg
    exact hn (j:Int) ⟨by omega,by omega⟩ (by rw [tI_get hj];exact (face_inj ht hg hc).symm)
  unfold mapC
  rw [has_l _ 0 C hall,set_l _ _ 0 C hall,dt' (by omega),mapF_snoc,Nat.zero_add]
  rfl
theorem same_v {i j:Int} {x t:TE} (h:GT i x) (h':GT j t):∃ b,xB.V x t=some b∧(b=true ↔ x=t):=by
 by_cases e1:tk x=tk t
 ·by_cases e2:ta x=ta t
  ·by_cases e3:tb x=tb t
   ·by_cases e4:tn x=tn t
    ·have q1:((x.1:Int) != t.1)=false:=by rw [bne_eq_false_iff_eq];exact e1
     have q2:((x.2.1:Int) != t.2.1)=false:=by rw [bne_eq_false_iff_eq];exact e2
     have q3:((x.2.2.1:Int) != t.2.2.1)=false:=by rw [bne_eq_false_iff_eq];exact e3
     have q4:((x.2.2.2.1:Int) != t.2.2.2.1)=false:=by rw [bne_eq_false_iff_eq];exact e4
     by_cases hk:tk x=1
     ·have q5:((x.1:Int) != 1)=false:=by rw [bne_eq_false_iff_eq];exact hk
      obtain ⟨⟨z,d,c1,c2⟩,_⟩:=h.can hk
      obtain ⟨⟨w,f,c3,c4⟩,_⟩:=h'.can (e1 ▸ hk)
      have hless:=rrless_R c1 c3
      rw [← c2,← c4] at hless
      have hless':xD.V x.2.2.2.2.1 t.2.2.2.2.1=_:=hless
      refine ⟨decide (z=w) && decide (d=f),xB.v _ _ ?_,?_⟩
      ·unfold xB.b
       rw [q1,q2,q3,q4]
       simp only [cond_false,Option.bind_some]
       rw [q5,hless']
       simp only [cond_false,Option.bind_some]
       rw [cmp_uniq c1 c3]
      ·rw [Bool.and_eq_true,decide_eq_true_eq,decide_eq_true_eq]
       constructor
       ·rintro ⟨rfl,rfl⟩
        rw [← mkT_eta x,← mkT_eta t,e1,e2,e3,e4,c2,c4]
       ·rintro rfl
        rw [c2] at c4
        have hz:=congrArg rZ c4
        have hd:=congrArg rD c4
        rw [rZ_R,rZ_R] at hz
        rw [rD_R,rD_R] at hd
        exact ⟨hz,hd⟩
     ·have q5:((x.1:Int) != 1)=true:=by rw [bne_iff_ne];exact hk
      refine ⟨true,xB.v _ _ ?_,fun _=>?_,fun _=>rfl⟩
      ·unfold xB.b
       rw [q1,q2,q3,q4]
       simp only [cond_false,Option.bind_some]
       rw [q5]
       rfl
      ·rw [← mkT_eta x,← mkT_eta t,e1,e2,e3,e4,h.zero hk,h'.zero (e1 ▸ hk)]
    ·refine ⟨false,xB.v _ _ ?_,(fun h=>by cases h),fun h=>absurd (by rw [h]) e4⟩
     have q1:((x.1:Int) != t.1)=false:=by rw [bne_eq_false_iff_eq];exact e1
     have q2:((x.2.1:Int) != t.2.1)=false:=by rw [bne_eq_false_iff_eq];exact e2
     have q3:((x.2.2.1:Int) != t.2.2.1)=false:=by rw [bne_eq_false_iff_eq];exact e3
     have q4:((x.2.2.2.1:Int) != t.2.2.2.1)=true:=by rw [bne_iff_ne];exact e4
     unfold xB.b
     rw [q1,q2,q3,q4]
     rfl
   ·refine ⟨false,xB.v _ _ ?_,(fun h=>by cases h),fun h=>absurd (by rw [h]) e3⟩
    have q1:((x.1:Int) != t.1)=false:=by rw [bne_eq_false_iff_eq];exact e1
    have q2:((x.2.1:Int) != t.2.1)=false:=by rw [bne_eq_false_iff_eq];exact e2
    have q3:((x.2.2.1:Int) != t.2.2.1)=true:=by rw [bne_iff_ne];exact e3
    unfold xB.b
    rw [q1,q2,q3]
    rfl
  ·refine ⟨false,xB.v _ _ ?_,(fun h=>by cases h),fun h=>absurd (by rw [h]) e2⟩
   have q1:((x.1:Int) != t.1)=false:=by rw [bne_eq_false_iff_eq];exact e1
   have q2:((x.2.1:Int) != t.2.1)=true:=by rw [bne_iff_ne];exact e2
   unfold xB.b
   rw [q1,q2]
   rfl
 ·refine ⟨false,xB.v _ _ ?_,(fun h=>by cases h),fun h=>absurd (by rw [h]) e1⟩
  have q1:((x.1:Int) != t.1)=true:=by rw [bne_iff_ne];exact e1
  unfold xB.b
  rw [q1]
  rfl
theorem rput_miss {C:CO} (h:Inv C) {t:TE} {n:Int} (ht:GT n t) (hl:C.length ≤ 1000000) (hn:∀ i,At C i→tI C i ≠ t):∀ m j:Nat,m + j=C.length→zx.V0 C t (j:Int)=some (Sum.inl (C,t))
 | 0,j,hm=>by
  refine zx.v0 _ _ _ ?_
  unfold zx.b0
  rw [df' (by omega)]
  rfl
 | m + 1,j,hm=>by
  refine zx.v0 _ _ _ ?_
  unfold zx.b0
  have hj:At C (j:Int):=⟨by omega,by omega⟩
  obtain ⟨b,b1,b2⟩:=same_v (h.gt hj) ht
  have hb:b=false:=by
   cases b with
   | false=>rfl
   | true=>exact absurd (b2.1 rfl) (hn _ hj)
  subst hb
  have b1':xB.V (rdL (Ty.zero api_Term) C (j:Int)) t=_:=b1
  rw [dt' (by omega),dt' (by omega),b1',wrap64 (by omega) (by omega)]
  exact rput_miss h ht hl hn m (j + 1) (by omega)
theorem rput_hit {C:CO} (h:Inv C) {t:TE} {n:Int} (ht:GT n t) (hl:C.length ≤ 1000000) {i:Nat} (hi:i < C.length) (e:tI C (i:Int)=t):∀ m j:Nat,m + j=i→zx.V0 C t (j:Int)=some (Sum.inr (C,(i:Int)))
 | 0,j,hm=>by
  have hji:j=i:=by omega
  subst hji
  refine zx.v0 _ _ _ ?_
  unfold zx.b0
  obtain ⟨b,b1,b2⟩:=same_v (h.1 j hi) ht
  have hb:b=true:=b2.2 e
  subst hb
  have b1':xB.V (rdL (Ty.zero api_Term) C (j:Int)) t=_:=b1
  rw [dt' (by omega),dt' (by omega),b1']
  rfl
 | m + 1,j,hm=>by
  refine zx.v0 _ _ _ ?_
  unfold zx.b0
  obtain ⟨b,b1,b2⟩:=same_v (h.1 j (by omega)) ht
  have hb:b=false:=by
   cases b with
   | false=>rfl
   | true =>
    have:=h.2 j i (by omega) hi (by rw [b2.1 rfl,e])
    omega
  subst hb
  have b1':xB.V (rdL (Ty.zero api_Term) C (j:Int)) t=_:=b1
  rw [dt' (by omega),dt' (by omega),b1',wrap64 (by omega) (by omega)]
  exact rput_hit h ht hl hi e m (j + 1) (by omega)
theorem rput_v {C:CO} (h:Inv C) {t:TE} (ht:GT ((C.length:Nat):Int) t) (hl:C.length < 1000000):zx.V C t=some (putS C t):=by
 refine zx.v _ _ ?_
 unfold zx.b
 rcases putS_cases h t with ⟨i,hi,e,hp⟩ | ⟨hn,hp⟩
 ·have hi0:=hi.1
  have hi1:=hi.2
  have k:=rput_hit h ht (by omega) (i:=i.toNat) (by omega) (by rw [show ((i.toNat:Nat):Int)=i by omega];exact e) i.toNat 0 (by omega)
  rw [show ((i.toNat:Nat):Int)=i by omega] at k
  simp only
  rw [show zx.V0 C t 0=_ from k,hp]
  rfl
 ·have k:=rput_miss h ht (by omega) hn C.length 0 (by omega)
  simp only
  rw [show zx.V0 C t 0=_ from k,hp]
  simp only [Option.bind_some,Sum.elim_inl]
  show (bif (decide (C.length + 1 ≤ 68719476736)) then some (C ++ [t],IntKind.wrap .i64 ((((C ++ [t]).length:Nat):Int) - 1)) else none)=_
  rw [dt' (by omega),List.length_append,List.length_singleton,wrap64 (by omega) (by omega)]
  show some (C ++ [t],((C.length + 1:Nat):Int) - 1)=_
  rw [show (((C.length + 1:Nat):Int) - 1)=((C.length:Nat):Int) by omega]
end
end Go.Proofs.YtlfcdmibknmjeaaGreatDoor.E
end
section
namespace Go.Proofs.YtlfcdmibknmjeaaGreatDoor.E
open Go Go.Proofs.YtlfcdmibknmjeaaGreatDoor.Ev
set_option linter.unusedSimpArgs false
noncomputable section
def isL (C:CO) (i:Int):Bool:=tk (tI C i) == 1
def litS (C:CO) (x:RA):CO × Int:=putS C (mkT 1 0 0 0 x)
def isV (C:CO) (i v:Int):Bool:=isL C i && (decide (rZ (tv (tI C i))=v) && decide (rD (tv (tI C i))=1))
def negS (C:CO) (a:Int):CO × Int:=bif isL C a then litS C (negR (tv (tI C a))) else bif tk (tI C a) == 7 then (C,ta (tI C a)) else putS C (mkT 7 a 0 0 R0)
def bothS (f:RA→RA→RA × Int) (C:CO) (a b:Int):Option RA:=bif isL C a && isL C b then (bif (f (tv (tI C a)) (tv (tI C b))).2 == 0 then some (f (tv (tI C a)) (tv (tI C b))).1 else none) else none
def oftS (C:CO) (a:Int):RA × Int:=bif tk (tI C a) == 7 then (R (-1) 1,ta (tI C a)) else bif (tk (tI C a) == 5) && isL C (ta (tI C a)) then (tv (tI C (ta (tI C a))),tb (tI C a)) else (R 1 1,a)
theorem At.d {C:CO} {i:Int} (h:At C i):decide ((0:Int) ≤ i∧i < ((C.length:Nat):Int))=true:=dt' (show (0:Int) ≤ i∧i < ((C.length:Nat):Int) from h)
def ans (r:CO × Int):Option (CO × MP × Int):=some (r.1,(mapC r.1,r.2))
theorem Inv.lit {C:CO} (h:Inv C) {i:Int} (hi:At C i) (hl:isL C i=true):CanR (tv (tI C i)):=(h.gt hi).can (by unfold isL at hl;simpa using hl) |>.1
theorem can1 {v:Int} (h:v.natAbs < 4294967296):Can v 1:=Can.one (Nat.le_trans (len1 h) (by omega))
theorem canR1 {v:Int} (h:v.natAbs < 4294967296):CanR (R v 1):=⟨v,1,can1 h,rfl⟩
theorem slit_v {C:CO} (h:Inv C) {x:RA} (hx:CanR x) (hl:C.length < 1000000):zk.V C (mapC C) x=ans (litS C x):=by
 refine zk.v _ _ _ ?_
 unfold zk.b
 rw [(negR_v hx).1,Option.bind_some]
 rw [show xj.V (((tr (negR x)).1,((tr (negR x)).2.1,())),((tr (negR x)).2.2,()))=_ from (negR_v hx.neg).1,Option.bind_some]
 show (Option.bind (zl.V C (mapC C) (mkT 1 0 0 0 (negR (negR x)))) _)=_
 rw [neg_neg hx,sput_v h (GT_lit hx) hl]
 rfl
theorem rlit_v {C:CO} (h:Inv C) {x:RA} (hx:CanR x) (hl:C.length < 1000000):yk.V C x=some (litS C x):=by
 refine yk.v _ _ ?_
 unfold yk.b
 show (Option.bind (zx.V C (mkT 1 0 0 0 x)) _)=_
 rw [rput_v h (GT_lit hx) hl]
 rfl
theorem number_is {C:CO} (m:MP) {i:Int} (hi:At C i):zD.f C m i=some (C,(m,(tv (tI C i),isL C i))):=by
 unfold zD.f
 rw [hi.d]
 rfl
theorem isLit_is {C:CO} {i:Int} (hi:At C i):xt.f C i=some (C,isL C i):=by
 unfold xt.f
 rw [hi.d]
 rfl
theorem sis_v {C:CO} (h:Inv C) (m:MP) {i v:Int} (hi:At C i) (hv:v.natAbs < 4294967296):zQ.V C m i v=some (C,(m,isV C i v)):=by
 refine zQ.v _ _ _ _ ?_
 unfold zQ.b
 simp only
 rw [number_is m hi,Option.bind_some]
 unfold isV
 cases hl:isL C i
 ·rfl
 ·obtain ⟨z,d,hc,he⟩:=h.lit hi hl
  simp only [cond_true,Bool.true_and]
  rw [rwhole_R (by omega) (by omega),Option.bind_some,he,rZ_R,rD_R]
  rw [show xb.V (R z d) (((tr (R v 1)).1,((tr (R v 1)).2.1,())),((tr (R v 1)).2.2,()))=_ from rsame_R hc (can1 hv)]
  rfl
theorem rlitIs_v {C:CO} (h:Inv C) {i v:Int} (hi:At C i) (hv:v.natAbs < 4294967296):yY.V C i v=some (C,isV C i v):=by
 refine yY.v _ _ _ ?_
 unfold yY.b
 rw [isLit_is hi,Option.bind_some]
 unfold isV
 cases hl:isL C i
 ·rfl
 ·obtain ⟨z,d,hc,he⟩:=h.lit hi hl
  have he':(rdL (Ty.zero api_Term) C i).2.2.2.2.1=R z d:=he
  simp only [cond_true,Bool.true_and]
  rw [hi.d,rrwhole_R (by omega) (by omega),Option.bind_some,he',he,rZ_R,rD_R]
  rw [show xD.V (R z d) (((tr (R v 1)).1,((tr (R v 1)).2.1,())),((tr (R v 1)).2.2,()))=_ from rrless_R hc (can1 hv)]
  simp only [cond_true,Option.bind_some]
  rw [cmp_uniq hc (can1 hv)]
theorem GT_neg {C:CO} {a:Int} (ha:At C a):GT ((C.length:Nat):Int) (mkT 7 a 0 0 R0):=.inr (.inr (.inl ⟨a,ha,rfl⟩))
theorem GT_two {C:CO} {k a b:Int} (hk:3 ≤ k∧k ≤ 6) (ha:At C a) (hb:At C b):GT ((C.length:Nat):Int) (mkT k a b 0 R0):=.inr (.inr (.inr (.inr ⟨k,a,b,⟨hk.1,hk.2,ha.1,ha.2,hb.1,hb.2⟩,rfl⟩)))
theorem sneg_v {C:CO} (h:Inv C) {a:Int} (ha:At C a) (hl:C.length < 1000000):yc.V C (mapC C) a=ans (negS C a):=by
 refine yc.v _ _ _ ?_
 unfold yc.b negS
 simp only
 rw [number_is _ ha,Option.bind_some]
 cases hL:isL C a
 ·simp only [cond_false]
  rw [ha.d]
  show (bif (tk (tI C a) == 7) then (bif true then some (C,(mapC C,ta (tI C a))) else none) else Option.bind (zl.V C (mapC C) (mkT 7 a 0 0 R0)) _)=_
  cases tk (tI C a) == 7
  ·rw [sput_v h (GT_neg ha) hl]
   rfl
  ·rfl
 ·simp only [cond_true]
  have hc:=h.lit ha hL
  rw [(negR_v hc).1,Option.bind_some]
  rw [show zk.V C (mapC C) (((tr (negR (tv (tI C a)))).1,((tr (negR (tv (tI C a)))).2.1,())),((tr (negR (tv (tI C a)))).2.2,()))=_ from slit_v h hc.neg hl]
  rfl
theorem rneg_v {C:CO} (h:Inv C) {a:Int} (ha:At C a) (hl:C.length < 1000000):xk.V C a=some (negS C a):=by
 refine xk.v _ _ ?_
 unfold xk.b negS
 rw [ha.d]
 show (bif (isL C a) then (bif true then Option.bind (xV.V (tv (tI C a))) _ else none) else bif (tk (tI C a) == 7) then (bif true then some (C,ta (tI C a)) else none) else Option.bind (zx.V C (mkT 7 a 0 0 R0)) _)=_
 cases hL:isL C a
 ·cases tk (tI C a) == 7
  ·rw [rput_v h (GT_neg ha) hl]
   rfl
  ·rfl
 ·have hc:=h.lit ha hL
  rw [(negR_v hc).2]
  simp only [cond_true,Option.bind_some]
  rw [show yk.V C (((tr (negR (tv (tI C a)))).1,((tr (negR (tv (tI C a)))).2.1,())),((tr (negR (tv (tI C a)))).2.2,()))=_ from rlit_v h hc.neg hl]
  rfl
def Is (V:RA→RA→Option (Bool × List Int × List Int × Int)) (f:RA→RA→RA × Int):Prop:=(∀ x y,CanR x→CanR y→V x y=some (fl (f x y)))∧∀ x y,(f x y).2=0→CanR (f x y).1
theorem Is.add:Is xh.V addR:=⟨fun _ _ h h'=>(addR_v h h').1,fun _ _ e=>ofR_can e⟩
theorem Is.sub:Is xu.V subR:=⟨fun _ _ h h'=>(subR_v h h').1,fun _ _ e=>ofR_can e⟩
theorem Is.mul:Is xp.V mulR:=⟨fun _ _ h h'=>(mulR_v h h').1,fun _ _ e=>ofR_can e⟩
theorem Is.div:Is xq.V divR:=⟨fun _ _ h h'=>(divR_v h h').1,fun _ _ e=>ofR_can e⟩
theorem bothS_some {f:RA→RA→RA × Int} {C:CO} {a b:Int} {x:RA} (h:bothS f C a b=some x):isL C a=true∧isL C b=true∧(f (tv (tI C a)) (tv (tI C b))).2=0∧x=(f (tv (tI C a)) (tv (tI C b))).1:=by
 unfold bothS at h
 cases h1:isL C a <;> cases h2:isL C b <;> rw [h1,h2] at h
 ·cases h
 ·cases h
 ·cases h
 ·cases h3:(f (tv (tI C a)) (tv (tI C b))).2 == 0 <;> rw [h3] at h
  ·cases h
  ·exact ⟨rfl,rfl,by simpa using h3,(Option.some.inj h).symm⟩
def bothA (C:CO) (o:Option RA):Option (CO × MP × Int × Bool):=match o with
 | some x=>some ((litS C x).1,(mapC (litS C x).1,((litS C x).2,true)))
 | none=>some (C,(mapC C,(0,false)))
theorem both_b {V:RA→RA→Option (Bool × List Int × List Int × Int)} {f:RA→RA→RA × Int} (hf:Is V f) {C:CO} (h:Inv C) {a b:Int} (ha:At C a) (hb:At C b) (hl:C.length < 1000000) :
 zn.b V zk.V C (mapC C) a b=bothA C (bothS f C a b):=by
 unfold zn.b bothS
 simp only
 rw [number_is _ ha,Option.bind_some]
 simp only
 rw [number_is _ hb,Option.bind_some]
 cases h1:isL C a
 ·rfl
 ·cases h2:isL C b
  ·rfl
  ·simp only [Bool.not_true,cond_false,cond_true,Bool.and_self]
   have c1:=h.lit ha h1
   have c2:=h.lit hb h2
   rw [hf.1 _ _ c1 c2,Option.bind_some]
   show (bif ((f (tv (tI C a)) (tv (tI C b))).2 != 0) then _ else _)=_
   cases h3:(f (tv (tI C a)) (tv (tI C b))).2 == 0
   ·rw [show ((f (tv (tI C a)) (tv (tI C b))).2 != 0)=true by rw [bne,h3];rfl]
    rfl
   ·rw [show ((f (tv (tI C a)) (tv (tI C b))).2 != 0)=false by rw [bne,h3];rfl]
    have c3:=hf.2 _ _ (show (f (tv (tI C a)) (tv (tI C b))).2=0 by simpa using h3)
    simp only [cond_false,cond_true]
    rw [show zk.V C (mapC C) (((fl (f (tv (tI C a)) (tv (tI C b)))).1,((fl (f (tv (tI C a)) (tv (tI C b)))).2.1,())),((fl (f (tv (tI C a)) (tv (tI C b)))).2.2.1,()))=_ from slit_v h c3 hl]
    rfl
theorem bothAdd_v {C:CO} (h:Inv C) {a b:Int} (ha:At C a) (hb:At C b) (hl:C.length < 1000000):zn.V C (mapC C) a b=bothA C (bothS addR C a b):=by
 have k:=both_b Is.add h ha hb hl
 unfold bothA at k ⊢
 split at k <;> exact zn.v _ _ _ _ k
theorem bothSub_v {C:CO} (h:Inv C) {a b:Int} (ha:At C a) (hb:At C b) (hl:C.length < 1000000):zu.V C (mapC C) a b=bothA C (bothS subR C a b):=by
 have k:=both_b Is.sub h ha hb hl
 unfold bothA at k ⊢
 split at k <;> exact zu.v _ _ _ _ k
theorem bothMul_v {C:CO} (h:Inv C) {a b:Int} (ha:At C a) (hb:At C b) (hl:C.length < 1000000):zr.V C (mapC C) a b=bothA C (bothS mulR C a b):=by
 have k:=both_b Is.mul h ha hb hl
 unfold bothA at k ⊢
 split at k <;> exact zr.v _ _ _ _ k
theorem bothDiv_v {C:CO} (h:Inv C) {a b:Int} (ha:At C a) (hb:At C b) (hl:C.length < 1000000):zv.V C (mapC C) a b=bothA C (bothS divR C a b):=by
 have k:=both_b Is.div h ha hb hl
 unfold bothA at k ⊢
 split at k <;> exact zv.v _ _ _ _ k
theorem Inv.kids {C:CO} (h:Inv C) {i:Int} (hi:At C i):((tk (tI C i)=7 ∨ tk (tI C i)=8 ∨ (3 ≤ tk (tI C i)∧tk (tI C i) ≤ 6))→At C (ta (tI C i))∧ta (tI C i) < i)∧((3 ≤ tk (tI C i)∧tk (tI C i) ≤ 6)→At C (tb (tI C i))∧tb (tI C i) < i):=by
 have hi0:=hi.1
 have hi1:=hi.2
 obtain ⟨k,a,b,n,v,ht,h1,h2,h3,h4⟩:=GT_cases (h.gt hi)
 rw [ht]
 rw [two_iff] at h3 h4
 refine ⟨fun hk=>?_,fun hk=>?_⟩
 ·have:=h3 hk
  exact ⟨⟨this.1,by show a < _;omega⟩,this.2⟩
 ·have:=h4 hk
  exact ⟨⟨this.1,by show b < _;omega⟩,this.2⟩
theorem soften_v {C:CO} (h:Inv C) (m:MP) {a:Int} (ha:At C a):zU.V C m a=some (C,(m,((tr (oftS C a).1).1,((tr (oftS C a).1).2.1,((tr (oftS C a).1).2.2,(oftS C a).2))))):=by
 refine zU.v _ _ _ ?_
 unfold zU.b oftS
 obtain ⟨k1,k2⟩:=h.kids ha
 have w1:=rwhole_R (z:=1) (by omega) (by omega)
 have w2:=rwhole_R (z:=-1) (by omega) (by omega)
 rw [ha.d]
 show (bif (tk (tI C a) == 7) then _ else Option.bind (bif (tk (tI C a) == 5) then (Option.bind (zD.f C m (ta (tI C a))) _) else _) _)=_
 by_cases c1:tk (tI C a)=7
 ·rw [show (tk (tI C a) == 7)=true by rw [beq_iff_eq];exact c1]
  simp only [cond_true]
  rw [w2]
  rfl
 ·rw [show (tk (tI C a) == 7)=false by rw [beq_eq_false_iff_ne];exact c1]
  by_cases c2:tk (tI C a)=5
  ·rw [show (tk (tI C a) == 5)=true by rw [beq_iff_eq];exact c2]
   have hA:=(k1 (by omega)).1
   simp only [cond_true,cond_false]
   rw [number_is m hA,Option.bind_some]
   cases isL C (ta (tI C a))
   ·simp only [cond_false,Option.bind_some,Sum.elim_inl,Bool.and_false]
    rw [w1]
    rfl
   ·rfl
  ·rw [show (tk (tI C a) == 5)=false by rw [beq_eq_false_iff_ne];exact c2]
   simp only [cond_false,Option.bind_some,Sum.elim_inl,Bool.false_and]
   rw [w1]
   rfl
theorem rsplit_v {C:CO} (h:Inv C) {a:Int} (ha:At C a):yZ.V C a=some (C,((tr (oftS C a).1).1,((tr (oftS C a).1).2.1,((tr (oftS C a).1).2.2,(oftS C a).2)))):=by
 refine yZ.v _ _ ?_
 unfold yZ.b oftS
 obtain ⟨k1,k2⟩:=h.kids ha
 have w1:=rrwhole_R (z:=1) (by omega) (by omega)
 have w2:=rrwhole_R (z:=-1) (by omega) (by omega)
 rw [ha.d]
 show (Option.bind (bif (tk (tI C a) == 5) then (Option.bind (xt.f C (ta (tI C a))) _) else (bif (tk (tI C a) == 7) then _ else _)) _)=_
 by_cases c1:tk (tI C a)=7
 ·rw [show (tk (tI C a) == 7)=true by rw [beq_iff_eq];exact c1,show (tk (tI C a) == 5)=false by rw [c1];rfl]
  simp only [cond_true,cond_false]
  rw [w2]
  rfl
 ·rw [show (tk (tI C a) == 7)=false by rw [beq_eq_false_iff_ne];exact c1]
  by_cases c2:tk (tI C a)=5
  ·rw [show (tk (tI C a) == 5)=true by rw [beq_iff_eq];exact c2]
   have hA:=(k1 (by omega)).1
   simp only [cond_true,cond_false]
   rw [isLit_is hA,Option.bind_some]
   cases isL C (ta (tI C a))
   ·simp only [cond_false,Bool.and_false]
    have c1':(@BEq.beq Int _ (rdL (Ty.zero api_Term) C a).1 7)=false:=by rw [beq_eq_false_iff_ne];exact c1
    rw [c1']
    simp only [cond_false,Option.bind_some,Sum.elim_inl]
    rw [w1]
    rfl
   ·simp only [cond_true]
    have hA':decide ((0 ≤ (rdL (Ty.zero api_Term) C a).2.1)∧((rdL (Ty.zero api_Term) C a).2.1 < ((C.length:Nat):Int)))=true:=At.d hA
    rw [hA']
    rfl
  ·rw [show (tk (tI C a) == 5)=false by rw [beq_eq_false_iff_ne];exact c2]
   simp only [cond_false,Option.bind_some,Sum.elim_inl,Bool.false_and]
   rw [w1]
   rfl
end
end Go.Proofs.YtlfcdmibknmjeaaGreatDoor.E
end
