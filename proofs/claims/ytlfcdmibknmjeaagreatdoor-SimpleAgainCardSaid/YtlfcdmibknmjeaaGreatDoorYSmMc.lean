import Derived.Test.YtlfcdmibknmjeaaGreatDoorYSmMb
section
namespace Go.Proofs.YtlfcdmibknmjeaaGreatDoor.E
open Go Go.Proofs.YtlfcdmibknmjeaaGreatDoor.Ev
set_option linter.unusedSimpArgs false
noncomputable section
def atI (l:List Int) (i:Int):Int:=rdL (0:Int) l i
def termS (M:CO) (t:TE) (l:List Int):CO × Int :=
 bif tk t == 1 then litS M (tv t) else bif tk t == 7 then negS M (atI l (ta t)) else bif tk t == 3 then addS M (atI l (ta t)) (atI l (tb t)) else bif tk t == 4 then subS M (atI l (ta t)) (atI l (tb t)) else bif tk t == 5 then mulS M (atI l (ta t)) (atI l (tb t)) else bif tk t == 6 then divS M (atI l (ta t)) (atI l (tb t)) else bif tk t == 8 then powS M (atI l (ta t)) (tn t) else putS M t
def Kids (M:CO) (t:TE) (l:List Int):Prop:=((tk t=7 ∨ tk t=8 ∨ (3 ≤ tk t∧tk t ≤ 6))→(0 ≤ ta t∧ta t < ((l.length:Nat):Int))∧At M (atI l (ta t)))∧((3 ≤ tk t∧tk t ≤ 6)→(0 ≤ tb t∧tb t < ((l.length:Nat):Int))∧At M (atI l (tb t)))
def rterm (M:CO) (t:TE) (l:List Int):Option (CO × Int) :=
 bif tk t == 1 then yk.V M (tv t) else bif tk t == 2 then zx.V M t else bif tk t == 7 then xk.V M (atI l (ta t)) else bif tk t == 8 then yz.V M (atI l (ta t)) (tn t) else zz.V M (tk t) (atI l (ta t)) (atI l (tb t))
theorem Fine.mul {C:CO} (h:Inv C) {a b:Int} (ha:At C a) (hb:At C b) (hl:C.length < 300000):Fine C (mulS C a b):=by
 obtain ⟨_,h2,h3,h4⟩:=mulS_v h ha hb (by omega)
 exact ⟨h2,by omega,h4⟩
theorem term_v {M:CO} (h:Inv M) {i:Int} {t:TE} (ht:GT i t) {l:List Int} (hk:Kids M t l) (hl:M.length < 300000) :
 (zF.V M (mapC M) t l=ans (termS M t l)∧rterm M t l=some (termS M t l))∧Fine M (termS M t l):=by
 obtain ⟨k1,k2⟩:=hk
 rcases ht with ⟨z,d,hc,rfl⟩ | ⟨n,hn,rfl⟩ | ⟨a,ha,rfl⟩ | ⟨a,n,ha,rfl⟩ | ⟨k,a,b,ha,rfl⟩
 ·have hx:CanR (R z d):=⟨z,d,hc,rfl⟩
  refine ⟨⟨?_,rlit_v h hx (by omega)⟩,.lit h hx⟩
  refine zF.v _ _ _ _ ?_
  unfold zF.b
  simp only [BEq.rfl,cond_true]
  rw [slit_v h hx (by omega)]
  rfl
 ·have hg:GT ((M.length:Nat):Int) (mkT 2 0 0 n R0):=.inr (.inl ⟨n,hn,rfl⟩)
  refine ⟨⟨?_,rput_v h hg (by omega)⟩,.put h hg⟩
  refine zF.v _ _ _ _ ?_
  unfold zF.b
  show (Option.bind (zl.V M (mapC M) (mkT 2 0 0 n R0)) _)=_
  rw [sput_v h hg (by omega)]
  rfl
 ·obtain ⟨b1,b2⟩:=k1 (.inl rfl)
  refine ⟨⟨?_,rneg_v h b2 (by omega)⟩,.neg h b2⟩
  refine zF.v _ _ _ _ ?_
  unfold zF.b
  have b1':decide ((0:Int) ≤ a∧a < ((l.length:Nat):Int))=true:=dt' b1
  show (bif decide ((0:Int) ≤ a∧a < ((l.length:Nat):Int)) then (Option.bind (yc.V M (mapC M) (atI l a)) _) else none)=_
  rw [b1',show yc.V M (mapC M) (atI l a)=_ from sneg_v h b2 (by omega)]
  rfl
 ·obtain ⟨b1,b2⟩:=k1 (.inr (.inl rfl))
  obtain ⟨⟨p1,p2⟩,p3⟩:=powS_v ((atI l a).toNat + 1) (a:=atI l a) (n:=n) (by omega) h b2 hl ⟨ha.2.2.1,ha.2.2.2⟩
  refine ⟨⟨?_,p2⟩,p3⟩
  refine zF.v _ _ _ _ ?_
  unfold zF.b
  have b1':decide ((0:Int) ≤ a∧a < ((l.length:Nat):Int))=true:=dt' b1
  show (bif decide ((0:Int) ≤ a∧a < ((l.length:Nat):Int)) then (Option.bind (zm.V M (mapC M) (atI l a) n) _) else none)=_
  rw [b1',p1]
  rfl
 ·obtain ⟨b1,b2⟩:=k1 (.inr (.inr ⟨ha.1,ha.2.1⟩))
  obtain ⟨c1,c2⟩:=k2 ⟨ha.1,ha.2.1⟩
  have b1':decide ((0:Int) ≤ a∧a < ((l.length:Nat):Int))=true:=dt' b1
  have c1':decide ((0:Int) ≤ b∧b < ((l.length:Nat):Int))=true:=dt' c1
  have:k=3 ∨ k=4 ∨ k=5 ∨ k=6:=by omega
  rcases this with rfl | rfl | rfl | rfl
  ·obtain ⟨⟨p1,p2⟩,p3⟩:=addS_v (a:=atI l a) (b:=atI l b) h b2 c2 hl
   refine ⟨⟨?_,p2⟩,p3⟩
   refine zF.v _ _ _ _ ?_
   unfold zF.b
   show (bif decide ((0:Int) ≤ a∧a < ((l.length:Nat):Int)) then (bif decide ((0:Int) ≤ b∧b < ((l.length:Nat):Int)) then (Option.bind (zV.V M (mapC M) (atI l a) (atI l b)) _) else none) else none)=_
   rw [b1',c1',p1]
   rfl
  ·obtain ⟨⟨p1,p2⟩,p3⟩:=subS_v (a:=atI l a) (b:=atI l b) h b2 c2 hl
   refine ⟨⟨?_,p2⟩,p3⟩
   refine zF.v _ _ _ _ ?_
   unfold zF.b
   show (bif decide ((0:Int) ≤ a∧a < ((l.length:Nat):Int)) then (bif decide ((0:Int) ≤ b∧b < ((l.length:Nat):Int)) then (Option.bind (zW.V M (mapC M) (atI l a) (atI l b)) _) else none) else none)=_
   rw [b1',c1',p1]
   rfl
  ·obtain ⟨⟨p1,p2⟩,_⟩:=mulS_v (a:=atI l a) (b:=atI l b) h b2 c2 (by omega)
   refine ⟨⟨?_,p2⟩,.mul h b2 c2 hl⟩
   refine zF.v _ _ _ _ ?_
   unfold zF.b
   show (bif decide ((0:Int) ≤ a∧a < ((l.length:Nat):Int)) then (bif decide ((0:Int) ≤ b∧b < ((l.length:Nat):Int)) then (Option.bind (zd.V M (mapC M) (atI l a) (atI l b)) _) else none) else none)=_
   rw [b1',c1',p1]
   rfl
  ·obtain ⟨⟨p1,p2⟩,p3⟩:=divS_v (a:=atI l a) (b:=atI l b) h b2 c2 hl
   refine ⟨⟨?_,p2⟩,p3⟩
   refine zF.v _ _ _ _ ?_
   unfold zF.b
   show (bif decide ((0:Int) ≤ a∧a < ((l.length:Nat):Int)) then (bif decide ((0:Int) ≤ b∧b < ((l.length:Nat):Int)) then (Option.bind (yf.V M (mapC M) (atI l a) (atI l b)) _) else none) else none)=_
   rw [b1',c1',p1]
   rfl
theorem need_hi {C:CO} (hC:Core C):∀ (i:Nat) (out:List Bool),i ≤ C.length→∀ j:Nat,i ≤ j→rdL false (needS C i out) (j:Int)=rdL false out (j:Int)
 | 0,_,_,_,_=>rfl
 | i + 1,out,hi,j,hj=>by
  rw [needS,need_hi hC i _ (by omega) j (by omega)]
  cases rdL false out (i:Int)
  ·rfl
  ·obtain ⟨k,a,b,n,v,ht,h1,h2,h3,h4⟩:=GT_cases (hC.1 i (by omega))
   rw [ht]
   show rdL false (markK k a b out) (j:Int)=_
   have st:∀ (o:List Bool) (x:Int),0 ≤ x∧x < (i:Int)→rdL false (o.set x.toNat true) (j:Int)=rdL false o (j:Int):=fun o x hx=>by
    unfold rdL
    rw [List.getD_eq_getElem?_getD,List.getD_eq_getElem?_getD,List.getElem?_set_ne (by omega)]
   unfold markK
   cases hk:(k == 7) || (k == 8)
   ·cases hk2:two k
    ·rfl
    ·show rdL false ((out.set a.toNat true).set b.toNat true) (j:Int)=_
     rw [st _ _ (h4 hk2),st _ _ (h3 (.inr (.inr hk2)))]
   ·show rdL false (out.set a.toNat true) (j:Int)=_
    rw [Bool.or_eq_true,beq_iff_eq,beq_iff_eq] at hk
    rw [st _ _ (h3 (by rcases hk with hk | hk <;> simp [hk]))]
theorem mark_up {k a b:Int} {out:List Bool} (j:Nat) (h:rdL false out (j:Int)=true):rdL false (markK k a b out) (j:Int)=true:=by
 have st:∀ (o:List Bool) (x:Nat),rdL false o (j:Int)=true→rdL false (o.set x true) (j:Int)=true:=fun o x ho=>by
  unfold rdL at ho ⊢
  rw [List.getD_eq_getElem?_getD] at ho ⊢
  by_cases hx:x=(j:Int).toNat
  ·rw [hx]
   by_cases hl:(j:Int).toNat < o.length
   ·rw [List.getElem?_set_self hl];rfl
   ·rw [List.getElem?_eq_none (by omega)] at ho
    cases ho
  ·rw [List.getElem?_set_ne hx]
   exact ho
 unfold markK
 cases (k == 7) || (k == 8)
 ·cases two k
  ·exact h
  ·exact st _ _ (st _ _ h)
 ·exact st _ _ h
theorem need_up (C:CO):∀ (i:Nat) (out:List Bool) (j:Nat),rdL false out (j:Int)=true→rdL false (needS C i out) (j:Int)=true
 | 0,_,_,h=>h
 | i + 1,out,j,h=>by
  rw [needS]
  cases rdL false out (i:Int)
  ·exact need_up C i out j h
  ·exact need_up C i _ j (mark_up j h)
theorem need_len {C:CO}:∀ (i:Nat) (out:List Bool),(needS C i out).length=out.length
 | 0,_=>rfl
 | i + 1,out=>by
  rw [needS,need_len i]
  cases rdL false out (i:Int)
  ·rfl
  ·show (markK _ _ _ out).length=_
   unfold markK
   cases ((tAt C i).1 == 7) || ((tAt C i).1 == 8)
   ·cases two (tAt C i).1
    ·rfl
    ·show ((out.set _ true).set _ true).length=_
     rw [List.length_set,List.length_set]
   ·show (out.set _ true).length=_
    rw [List.length_set]
theorem need_kids {C:CO} (hC:Core C):∀ (i:Nat) (out:List Bool),i ≤ C.length→out.length=C.length→∀ j:Nat,j < i→rdL false (needS C i out) (j:Int)=true →
 ((tk (tI C (j:Int))=7 ∨ tk (tI C (j:Int))=8 ∨ (3 ≤ tk (tI C (j:Int))∧tk (tI C (j:Int)) ≤ 6))→rdL false (needS C i out) (ta (tI C (j:Int)))=true)∧((3 ≤ tk (tI C (j:Int))∧tk (tI C (j:Int)) ≤ 6)→rdL false (needS C i out) (tb (tI C (j:Int)))=true)
 | 0,_,_,_,j,hj,_=>absurd hj (by omega)
 | i + 1,out,hi,ho,j,hj,hr=>by
  rw [needS] at hr ⊢
  have hml:(bif rdL false out (i:Int) then markT (tAt C i) out else out).length=C.length:=by
   have:=need_len (C:=C) 1 out
   cases rdL false out (i:Int)
   ·exact ho
   ·show (markK _ _ _ out).length=_
    unfold markK
    cases ((tAt C i).1 == 7) || ((tAt C i).1 == 8)
    ·cases two (tAt C i).1
     ·exact ho
     ·show ((out.set _ true).set _ true).length=_
      rw [List.length_set,List.length_set,ho]
    ·show (out.set _ true).length=_
     rw [List.length_set,ho]
  by_cases hji:j < i
  ·exact need_kids hC i _ (by omega) hml j hji hr
  ·have hje:j=i:=by omega
   subst hje
   rw [need_hi hC j _ (by omega) j (Nat.le_refl _)] at hr
   obtain ⟨k,a,b,n,v,ht,h1,h2,h3,h4⟩:=GT_cases (hC.1 j (by omega))
   have ht':tI C (j:Int)=(k,(a,(b,(n,(v,()))))):=ht
   have hm:rdL false out (j:Int)=true:=by
    cases hm:rdL false out (j:Int) with
    | true=>rfl
    | false=>rw [hm] at hr;exact hm.symm.trans hr
   rw [hm]
   have set_eq:∀ (o:List Bool) (x:Int),0 ≤ x∧x < ((o.length:Nat):Int)→rdL false (o.set x.toNat true) x=true:=fun o x hx=>by
    unfold rdL
    rw [List.getD_eq_getElem?_getD,List.getElem?_set_self (by omega)]
    rfl
   have set_up:∀ (o:List Bool) (x:Nat) (y:Int),rdL false o y=true→rdL false (o.set x true) y=true:=fun o x y hy=>by
    unfold rdL at hy ⊢
    rw [List.getD_eq_getElem?_getD] at hy ⊢
    by_cases hx:x=y.toNat
    ·rw [hx]
     by_cases hl:y.toNat < o.length
     ·rw [List.getElem?_set_self hl];rfl
     ·rw [List.getElem?_eq_none (by omega)] at hy
      cases hy
    ·rw [List.getElem?_set_ne hx]
     exact hy
   rw [ht']
   show ((k=7 ∨ k=8 ∨ (3 ≤ k∧k ≤ 6))→rdL false (needS C j (markT (tAt C j) out)) a=true)∧((3 ≤ k∧k ≤ 6)→rdL false (needS C j (markT (tAt C j) out)) b=true)
   rw [ht]
   show ((k=7 ∨ k=8 ∨ (3 ≤ k∧k ≤ 6))→rdL false (needS C j (markK k a b out)) a=true)∧((3 ≤ k∧k ≤ 6)→rdL false (needS C j (markK k a b out)) b=true)
   rw [two_iff] at h3 h4
   refine ⟨fun hk=>?_,fun hk=>?_⟩
   ·have ha:=h3 hk
    have:=need_up C j (markK k a b out) a.toNat (by
     rw [show ((a.toNat:Nat):Int)=a by omega]
     unfold markK
     cases hq:(k == 7) || (k == 8)
     ·have hk2:two k=true:=by
       rw [two_iff]
       rw [Bool.or_eq_false_iff,beq_eq_false_iff_ne,beq_eq_false_iff_ne] at hq
       omega
      rw [hk2]
      exact set_up _ _ _ (set_eq _ _ (by omega))
     ·exact set_eq _ _ (by omega))
    rwa [show ((a.toNat:Nat):Int)=a by omega] at this
   ·have hb:=h4 hk
    have:=need_up C j (markK k a b out) b.toNat (by
     rw [show ((b.toNat:Nat):Int)=b by omega]
     unfold markK
     have hq:((k == 7) || (k == 8))=false:=by
      rw [Bool.or_eq_false_iff,beq_eq_false_iff_ne,beq_eq_false_iff_ne]
      omega
     rw [hq,(two_iff k).2 hk]
     exact set_eq _ _ (by rw [List.length_set];omega))
    rwa [show ((b.toNat:Nat):Int)=b by omega] at this
end
end Go.Proofs.YtlfcdmibknmjeaaGreatDoor.E
end
section
namespace Go.Proofs.YtlfcdmibknmjeaaGreatDoor.E
open Go Go.Proofs.YtlfcdmibknmjeaaGreatDoor.Ev
set_option linter.unusedSimpArgs false
noncomputable section
abbrev St:=CO × List Int
def stepS (C:CO) (nd:List Bool) (i:Nat) (s:St):St:=bif rdL false nd (i:Int) then ((termS s.1 (tI C (i:Int)) s.2).1,s.2.set i (termS s.1 (tI C (i:Int)) s.2).2) else s
def runS (C:CO) (nd:List Bool):Nat→Nat→St→St
 | 0,_,s=>s
 | m + 1,i,s=>runS C nd m (i + 1) (stepS C nd i s)
def Done (nd:List Bool) (n i:Nat) (s:St):Prop:=Inv s.1∧s.2.length=n∧(∀ j:Nat,j < i→rdL false nd (j:Int)=true→At s.1 (atI s.2 (j:Int)))∧s.1.length ≤ i * (i + 3)∧nlA s.1 ≤ i
def Closed (C:CO) (nd:List Bool) (n:Nat):Prop:=∀ j:Nat,j < n→rdL false nd (j:Int)=true →
 ((tk (tI C (j:Int))=7 ∨ tk (tI C (j:Int))=8 ∨ (3 ≤ tk (tI C (j:Int))∧tk (tI C (j:Int)) ≤ 6))→rdL false nd (ta (tI C (j:Int)))=true)∧((3 ≤ tk (tI C (j:Int))∧tk (tI C (j:Int)) ≤ 6)→rdL false nd (tb (tI C (j:Int)))=true)
theorem room {i:Nat} (h:i ≤ 100) {m:Nat} (hm:m ≤ i * (i + 3)):m < 300000:=by
 have:i * (i + 3) ≤ 100 * 103:=Nat.mul_le_mul h (by omega)
 omega
theorem Done.kids {C:CO} (hC:Core C) {nd:List Bool} {n i:Nat} (hcl:Closed C nd n) {s:St} (h:Done nd n i s) (hi:i < n) (hn:n ≤ C.length) (hr:rdL false nd (i:Int)=true):Kids s.1 (tI C (i:Int)) s.2:=by
 obtain ⟨h1,h2,h3,h4,h5⟩:=h
 obtain ⟨k,a,b,m,v,ht,g1,g2,g3,g4⟩:=GT_cases (hC.1 i (by omega))
 have ht':tI C (i:Int)=(k,(a,(b,(m,(v,()))))):=ht
 obtain ⟨c1,c2⟩:=hcl i hi hr
 rw [two_iff] at g3 g4
 rw [ht'] at c1 c2 ⊢
 refine ⟨fun hk=>?_,fun hk=>?_⟩
 ·have hg:=g3 hk
  have hc:=c1 hk
  refine ⟨⟨hg.1,by show a < _;rw [h2];omega⟩,?_⟩
  have:=h3 a.toNat (by omega) (by rw [show ((a.toNat:Nat):Int)=a by omega];exact hc)
  rwa [show ((a.toNat:Nat):Int)=a by omega] at this
 ·have hg:=g4 hk
  have hc:=c2 hk
  refine ⟨⟨hg.1,by show b < _;rw [h2];omega⟩,?_⟩
  have:=h3 b.toNat (by omega) (by rw [show ((b.toNat:Nat):Int)=b by omega];exact hc)
  rwa [show ((b.toNat:Nat):Int)=b by omega] at this
theorem At.ext {C D:CO} (h:Ext C D) {i:Int} (hi:At C i):At D i:=h.at hi
theorem Done.step {C:CO} (hC:Core C) {nd:List Bool} {n i:Nat} (hcl:Closed C nd n) {s:St} (h:Done nd n i s) (hi:i < n) (hn:n ≤ C.length) (hs:i ≤ 100):Done nd n (i + 1) (stepS C nd i s) ∧
 (rdL false nd (i:Int)=true→zF.V s.1 (mapC s.1) (tI C (i:Int)) s.2=ans (termS s.1 (tI C (i:Int)) s.2)∧rterm s.1 (tI C (i:Int)) s.2=some (termS s.1 (tI C (i:Int)) s.2)):=by
 have hk:=fun hr=>Done.kids hC hcl h hi hn hr
 obtain ⟨h1,h2,h3,h4,h5⟩:=h
 have e:(i + 1) * (i + 1 + 3)=i * (i + 3) + 2 * i + 4:=by
  rw [Nat.add_mul,Nat.one_mul,show i * (i + 1 + 3)=i * (i + 3 + 1) from rfl,Nat.mul_succ]
  omega
 unfold stepS
 cases hr:rdL false nd (i:Int)
 ·refine ⟨⟨h1,h2,fun j hj hj2=>?_,by show s.1.length ≤ _;omega,by show nlA s.1 ≤ _;omega⟩,fun h=>by cases h⟩
  by_cases hji:j=i
  ·subst hji
   rw [hr] at hj2
   cases hj2
  ·exact h3 j (by omega) hj2
 ·obtain ⟨t1,⟨t2,t3,t4⟩,t5,t6⟩:=term_v h1 (hC.1 i (by omega)) (t:=tI C (i:Int)) (hk hr) (room hs h4)
  refine ⟨⟨t2,by show (s.2.set i _).length=n;rw [List.length_set,h2],fun j hj hj2=>?_,by show (termS s.1 (tI C (i:Int)) s.2).1.length ≤ _;omega,by show nlA (termS s.1 (tI C (i:Int)) s.2).1 ≤ _;omega⟩,fun _=>t1⟩
  show At (termS s.1 (tI C (i:Int)) s.2).1 (atI (s.2.set i (termS s.1 (tI C (i:Int)) s.2).2) (j:Int))
  by_cases hji:j=i
  ·subst hji
   have:atI (s.2.set j (termS s.1 (tI C (j:Int)) s.2).2) (j:Int)=(termS s.1 (tI C (j:Int)) s.2).2:=by
    unfold atI rdL
    rw [List.getD_eq_getElem?_getD,show (j:Int).toNat=j by omega,List.getElem?_set_self (by omega)]
    rfl
   rw [this]
   exact t4
  ·have:atI (s.2.set i (termS s.1 (tI C (i:Int)) s.2).2) (j:Int)=atI s.2 (j:Int):=by
    unfold atI rdL
    rw [List.getD_eq_getElem?_getD,List.getD_eq_getElem?_getD,List.getElem?_set_ne (by omega)]
   rw [this]
   exact t3.at (h3 j (by omega) hj2)
theorem runS_done {C:CO} (hC:Core C) {nd:List Bool} {n:Nat} (hcl:Closed C nd n) (hn:n ≤ C.length) (hs:n ≤ 100):∀ (m i:Nat) (s:St),m + i=n→Done nd n i s→Done nd n n (runS C nd m i s)
 | 0,i,s,hm,h=>by
  rw [Nat.zero_add] at hm
  subst hm
  exact h
 | m + 1,i,s,hm,h=>runS_done hC hcl hn hs m (i + 1) _ (by omega) (Done.step hC hcl h (by omega) hn (by omega)).1
theorem tI_take {C:CO} {n:Nat} {i:Nat} (hi:i < n):rdL (Ty.zero api_Term) (C.take n) (i:Int)=tI C (i:Int):=by
 unfold tI rdL
 rw [List.getD_eq_getElem?_getD,List.getD_eq_getElem?_getD,List.getElem?_take_of_lt (by omega)]
theorem of_l {C:CO} (hC:Core C) {nd:List Bool} {n:Nat} (hcl:Closed C nd n) (hn:n ≤ C.length) (hs:n ≤ 100) (hnl:nd.length=C.length) (root:Int):∀ (m i:Nat) (s:St),m + i=n→Done nd n i s →
 zO.V0 s.1 (mapC s.1) root nd s.2 (C.take n) ((n:Nat):Int) (i:Int)=some ((runS C nd m i s).1,(mapC (runS C nd m i s).1,(root,(runS C nd m i s).2)))
 | 0,i,s,hm,h=>by
  refine zO.v0 _ _ _ _ _ _ _ _ ?_
  unfold zO.b0
  rw [df' (by omega)]
  rfl
 | m + 1,i,s,hm,h=>by
  obtain ⟨d1,d2⟩:=Done.step hC hcl h (by omega) hn (by omega)
  refine zO.v0 _ _ _ _ _ _ _ _ ?_
  unfold zO.b0
  have hw:IntKind.wrap .i64 ((i:Int) + 1)=((i + 1:Nat):Int):=by rw [wrap64 (by omega) (by omega)];omega
  have ih:=of_l hC hcl hn hs hnl root m (i + 1) (stepS C nd i s) (by omega) d1
  rw [runS]
  rw [dt' (by omega),dt' (by rw [List.length_take];omega),dt' (by omega),tI_take (by omega),hw]
  simp only [cond_true]
  unfold stepS at ih ⊢
  cases hr:rdL false nd (i:Int)
  ·rw [hr] at ih
   exact ih
  ·rw [hr] at ih
   simp only [cond_true] at ih ⊢
   rw [(d2 hr).1]
   unfold ans
   simp only [Option.bind_some]
   rw [dt' (by rw [h.2.1];omega),Int.toNat_natCast]
   exact ih
theorem needs_closed {C:CO} (hC:Core C) {root:Nat} (hr:root < C.length):Closed C (needsS C root) (root + 1):=fun j hj h=>need_kids hC (root + 1) _ (by omega) (by rw [List.length_set,List.length_replicate]) j hj h
theorem needs_root {C:CO} {root:Nat} (hr:root < C.length):rdL false (needsS C root) (root:Int)=true:=by
 refine need_up C _ _ _ ?_
 unfold rdL
 rw [List.getD_eq_getElem?_getD,show (root:Int).toNat=root by omega,List.getElem?_set_self (by rw [List.length_replicate];exact hr)]
 rfl
theorem needs_len (C:CO) (root:Nat):(needsS C root).length=C.length:=by
 unfold needsS
 rw [need_len,List.length_set,List.length_replicate]
def simS (C:CO) (root:Nat):St:=runS C (needsS C root) (root + 1) 0 ([],List.replicate (root + 1) 0)
theorem done0 (nd:List Bool) (n:Nat):Done nd n 0 ([],List.replicate n 0):=⟨Inv.nil,List.length_replicate,fun j hj=>absurd hj (by omega),Nat.le_refl _,Nat.le_refl _⟩
theorem simS_done {C:CO} (hC:Core C) {root:Nat} (hr:root < C.length) (hl:C.length ≤ 100):Done (needsS C root) (root + 1) (root + 1) (simS C root):=runS_done hC (needs_closed hC hr) (by omega) (by omega) (root + 1) 0 _ rfl (done0 _ _)
def simR (C:CO) (root:Int):(Int × Int) ⊕ (CO × Int × Int):=if root < 0 ∨ ((C.length:Nat):Int) ≤ root ∨ goodC 0 C=false then .inl (0,1) else .inr ((simS C root.toNat).1,(atI (simS C root.toNat).2 root,0))
theorem simple_v {C : CO} (h : CLb C) (hl : C.length ≤ 100) (root : Int) : zO.V C root = some (simR C root) := by
 refine zO.v _ _ ?_
 unfold zO.b simR
 rw [needs_v h root,Option.bind_some]
 unfold needsR
 by_cases hc:root < 0 ∨ ((C.length:Nat):Int) ≤ root ∨ goodC 0 C=false
 ·rw [if_pos hc,if_pos hc]
  rfl
 ·rw [if_neg hc,if_neg hc]
  have hr0:0 ≤ root:=by omega
  have hr1:root < ((C.length:Nat):Int):=by omega
  have hg:goodC 0 C=true:=by simpa using fun hh=>hc (.inr (.inr hh))
  have hC:=core_of hg h.2
  have hd:=simS_done hC (root:=root.toNat) (by omega) hl
  have k:=of_l hC (needs_closed hC (root:=root.toNat) (by omega)) (by omega) (by omega) (needs_len C root.toNat) root (root.toNat + 1) 0 ([],List.replicate (root.toNat + 1) 0) rfl (done0 _ _)
  have hw:IntKind.wrap .i64 (root + 1)=((root.toNat + 1:Nat):Int):=by rw [wrap64 (by omega) (by omega)];omega
  simp only [Sum.elim_inr]
  rw [hw,needs_len,dt' (by omega),dt' (by omega),dt' (by omega),Int.toNat_natCast,List.length_take,Nat.min_eq_left (by omega)]
  simp only [cond_true]
  rw [show zO.V0 [] [] root (needsS C root.toNat) (List.replicate (root.toNat + 1) 0) (C.take (root.toNat + 1)) ((root.toNat + 1:Nat):Int) 0=_ from k]
  simp only [Option.bind_some]
  have hd2:(simS C root.toNat).2.length=root.toNat + 1:=hd.2.1
  show (bif decide ((0:Int) ≤ root∧root < (((simS C root.toNat).2.length:Nat):Int)) then _ else none)=_
  rw [hd2,dt' (by omega)]
  rfl
end
end Go.Proofs.YtlfcdmibknmjeaaGreatDoor.E
end
section
namespace Go.Proofs.YtlfcdmibknmjeaaGreatDoor.E
open Go Go.Proofs.YtlfcdmibknmjeaaGreatDoor.Ev
theorem wakes_v:xf.V=some true:=lim_iff.2 (Evw.of (K:=100) fun k=>by kernel_rfl)
end Go.Proofs.YtlfcdmibknmjeaaGreatDoor.E
end
section
namespace Go.Proofs.YtlfcdmibknmjeaaGreatDoor.E
open Go Go.Proofs.YtlfcdmibknmjeaaGreatDoor.Ev
set_option linter.unusedSimpArgs false
noncomputable section
theorem knat_l {a b:List Int} (hl:a.length=b.length) (hs:a.length ≤ 4294967296):∀ m i:Nat,m + i=a.length→zX.V0 a b (i:Int)=some (if a.drop i=b.drop i then Sum.inl () else Sum.inr false)
 | 0,i,hm=>by
  refine zX.v0 _ _ _ ?_
  unfold zX.b0
  rw [df' (by omega),List.drop_eq_nil_of_le (by omega),List.drop_eq_nil_of_le (by omega),if_pos rfl]
  rfl
 | m + 1,i,hm=>by
  refine zX.v0 _ _ _ ?_
  unfold zX.b0
  have ea:rdL (0:Int) a (i:Int)=a[i]'(by omega):=by simp [rdL,List.getD_eq_getElem?_getD,List.getElem?_eq_getElem (show i < a.length by omega)]
  have eb:rdL (0:Int) b (i:Int)=b[i]'(by omega):=by simp [rdL,List.getD_eq_getElem?_getD,List.getElem?_eq_getElem (show i < b.length by omega)]
  rw [dt' (by omega),dt' (by omega),dt' (by omega),ea,eb,List.drop_eq_getElem_cons (l:=a) (i:=i) (by omega),List.drop_eq_getElem_cons (l:=b) (i:=i) (by omega)]
  simp only [cond_true]
  by_cases h:a[i]'(by omega)=b[i]'(by omega)
  ·rw [h,wrap64 (by omega) (by omega),show ((i:Int) + 1)=((i + 1:Nat):Int) by omega,knat_l hl hs m (i + 1) (by omega)]
   simp only [bne_self_eq_false,cond_false]
   by_cases hd:a.drop (i + 1)=b.drop (i + 1)
   ·rw [if_pos hd,if_pos (by rw [hd])]
   ·rw [if_neg hd,if_neg fun he=>hd (List.cons.inj he).2]
  ·rw [show ((a[i]'(by omega)) != (b[i]'(by omega)))=true by simpa using h,if_neg (fun he=>h (List.cons.inj he).1)]
   rfl
theorem knat_v {a b:List Int} (hs:a.length ≤ 4294967296):zX.V a b=some (decide (a=b)):=by
 refine zX.v _ _ ?_
 unfold zX.b
 by_cases hl:a.length=b.length
 ·have k:=knat_l hl hs a.length 0 (by omega)
  rw [List.drop_zero,List.drop_zero] at k
  rw [show (((a.length:Nat):Int) != ((b.length:Nat):Int))=false by rw [bne_eq_false_iff_eq];omega]
  simp only [cond_false]
  rw [show zX.V0 a b 0=_ from k]
  by_cases h:a=b
  ·rw [if_pos h,dt' h];rfl
  ·rw [if_neg h,df' h];rfl
 ·rw [df' (fun h=>hl (by rw [h])),show (((a.length:Nat):Int) != ((b.length:Nat):Int))=true by rw [bne_iff_ne];omega]
  rfl
theorem krat_v {x y:RA} (h1:x.1.2.1.length ≤ 4294967296) (h2:x.2.1.length ≤ 4294967296):∃ b,yX.V x y=some b∧(b=true ↔ x=y):=by
 obtain ⟨⟨n,m,_⟩,d,_⟩:=x
 obtain ⟨⟨n',m',_⟩,d',_⟩:=y
 have e1:xr.V (n,(m,())) (n',(m',()))=some ((n == n') && decide (m=m')):=by
  refine xr.v _ _ ?_
  unfold xr.b
  show (bif (n == n') then Option.bind (zX.V m m') _ else some false)=_
  rw [knat_v h1]
  cases n == n' <;> rfl
 refine ⟨((n == n') && decide (m=m')) && decide (d=d'),yX.v _ _ ?_,?_⟩
 ·unfold yX.b
  show (Option.bind (xr.V (n,(m,())) (n',(m',()))) fun y3=>(bif y3 then Option.bind (zX.V d d') _ else some false))=_
  rw [e1,knat_v h2,Option.bind_some]
  cases ((n == n') && decide (m=m')) <;> rfl
 ·rw [Bool.and_eq_true,Bool.and_eq_true,beq_iff_eq,decide_eq_true_eq,decide_eq_true_eq]
  constructor
  ·rintro ⟨⟨rfl,rfl⟩,rfl⟩
   rfl
  ·intro h
   have h':n=n'∧m=m'∧d=d':=by
    have a1:=congrArg (fun z:RA=>z.1.1) h
    have a2:=congrArg (fun z:RA=>z.1.2.1) h
    have a3:=congrArg (fun z:RA=>z.2.1) h
    exact ⟨a1,a2,a3⟩
   exact ⟨⟨h'.1,h'.2.1⟩,h'.2.2⟩
def CSz (C:CO):Prop:=(∀ t ∈ C,(tv t).1.2.1.length ≤ 4294967296∧(tv t).2.1.length ≤ 4294967296)∧C.length ≤ 1000000
theorem kcore_l {C D:CO} (h:CSz C) (hl:C.length=D.length):∀ m i:Nat,m + i=C.length→∃ b:Bool,zM.V0 C D (i:Int)=some (bif b then Sum.inl () else Sum.inr false)∧(b=true ↔ C.drop i=D.drop i)
 | 0,i,hm=>by
  refine ⟨true,zM.v0 _ _ _ ?_,?_⟩
  ·unfold zM.b0
   rw [df' (by omega)]
   rfl
  ·rw [List.drop_eq_nil_of_le (by omega),List.drop_eq_nil_of_le (by omega)]
   exact ⟨fun _=>rfl,fun _=>rfl⟩
 | m + 1,i,hm=>by
  have hs:=h.2
  obtain ⟨b,b1,b2⟩:=kcore_l h hl m (i + 1) (by omega)
  have hi:i < C.length:=by omega
  have hj:i < D.length:=by omega
  have hmem:=h.1 _ (List.getElem_mem hi)
  have eC:rdL (Ty.zero api_Term) C (i:Int)=C[i]:=rdT hi
  have eD:rdL (Ty.zero api_Term) D (i:Int)=D[i]:=rdT hj
  rw [List.drop_eq_getElem_cons hi,List.drop_eq_getElem_cons hj]
  generalize C[i]=t at *
  generalize D[i]=u at *
  obtain ⟨c,c1,c2⟩:=krat_v (x:=tv t) (y:=tv u) hmem.1 hmem.2
  refine ⟨((@BEq.beq Int _ (tk t) (tk u)) && ((@BEq.beq Int _ (ta t) (ta u)) && ((@BEq.beq Int _ (tb t) (tb u)) && ((@BEq.beq Int _ (tn t) (tn u)) && c)))) && b,zM.v0 _ _ _ ?_,?_⟩
  ·unfold zM.b0
   have hw:IntKind.wrap .i64 ((i:Int) + 1)=((i + 1:Nat):Int):=by rw [wrap64 (by omega) (by omega)];omega
   rw [dt' (by omega),dt' (by omega),dt' (by omega),eC,eD]
   have c1':yX.V t.2.2.2.2.1 u.2.2.2.2.1=some c:=c1
   rw [c1']
   simp only [cond_true]
   show (Option.bind (bif !(@BEq.beq Int _ (tk t) (tk u)) then some (C,(D,((i:Int),true))) else (bif !(@BEq.beq Int _ (ta t) (ta u)) then some (C,(D,((i:Int),true))) else (bif !(@BEq.beq Int _ (tb t) (tb u)) then some (C,(D,((i:Int),true))) else (bif !(@BEq.beq Int _ (tn t) (tn u)) then some (C,(D,((i:Int),true))) else some (C,(D,((i:Int),!c))))))) fun y5:CO × CO × Int × Bool=>(bif y5.2.2.2 then some (Sum.inr false) else zM.V0 y5.1 y5.2.1 (IntKind.wrap .i64 (y5.2.2.1 + 1))))=_
   cases (@BEq.beq Int _ (tk t) (tk u))
   ·rfl
   ·cases (@BEq.beq Int _ (ta t) (ta u))
    ·rfl
    ·cases (@BEq.beq Int _ (tb t) (tb u))
     ·rfl
     ·cases (@BEq.beq Int _ (tn t) (tn u))
      ·rfl
      ·cases c
       ·rfl
       ·show zM.V0 C D (IntKind.wrap .i64 ((i:Int) + 1))=_
        rw [hw,b1]
        rfl
  ·rw [Bool.and_eq_true,Bool.and_eq_true,Bool.and_eq_true,Bool.and_eq_true,Bool.and_eq_true,beq_iff_eq,beq_iff_eq,beq_iff_eq,beq_iff_eq,b2,c2]
   constructor
   ·rintro ⟨⟨h1,h2,h3,h4,h5⟩,h6⟩
    rw [← mkT_eta t,← mkT_eta u,h1,h2,h3,h4,h5,h6]
   ·intro he
    obtain ⟨e1,e2⟩:=List.cons.inj he
    subst e1
    exact ⟨⟨rfl,rfl,rfl,rfl,rfl⟩,e2⟩
theorem kcore_v {C D:CO} (h:CSz C):∃ b,zM.V C D=some b∧(b=true ↔ C=D):=by
 by_cases hl:C.length=D.length
 ·obtain ⟨b,b1,b2⟩:=kcore_l h hl C.length 0 (by omega)
  rw [List.drop_zero,List.drop_zero] at b2
  refine ⟨b,zM.v _ _ ?_,b2⟩
  unfold zM.b
  rw [show (((C.length:Nat):Int) != ((D.length:Nat):Int))=false by rw [bne_eq_false_iff_eq];omega]
  simp only [cond_false]
  rw [show zM.V0 C D 0=_ from b1]
  cases b <;> rfl
 ·refine ⟨false,zM.v _ _ ?_,(fun h=>by cases h),fun h=>absurd (by rw [h]) hl⟩
  unfold zM.b
  rw [show (((C.length:Nat):Int) != ((D.length:Nat):Int))=true by rw [bne_iff_ne];omega]
  rfl
theorem own_t {x:RA} (h1:x.1.2.1.length ≤ 4294967296) (h2:x.2.1.length ≤ 4294967296):xF.f x=some (tr x):=by
 have n:∀ l:List Int,l.length ≤ 4294967296→xC.f l=some l:=fun l hl=>by
  unfold xC.f
  rw [dt' (by rw [List.length_nil];omega)]
  rfl
 unfold xF.f xH.f
 rw [n _ h1,n _ h2]
 rfl
theorem own_l {C:CO} (h:CSz C):∀ m i:Nat,m + i=C.length→zt.V0 C (C.take i) (i:Int)=some C
 | 0,i,hm=>by
  refine zt.v0 _ _ _ ?_
  unfold zt.b0
  rw [df' (by omega),List.take_of_length_le (by omega)]
  rfl
 | m + 1,i,hm=>by
  have hs:=h.2
  have hi:i < C.length:=by omega
  have hmem:=h.1 _ (List.getElem_mem hi)
  have eC:rdL (Ty.zero api_Term) C (i:Int)=C[i]:=rdT hi
  refine zt.v0 _ _ _ ?_
  unfold zt.b0
  have hw:IntKind.wrap .i64 ((i:Int) + 1)=((i + 1:Nat):Int):=by rw [wrap64 (by omega) (by omega)];omega
  rw [dt' (by omega),dt' (by omega),eC,show xF.f C[i].2.2.2.2.1=_ from own_t hmem.1 hmem.2]
  simp only [cond_true,Option.bind_some]
  show (bif decide ((C.take i).length + 1 ≤ 68719476736) then zt.V0 C (C.take i ++ [C[i]]) (IntKind.wrap .i64 ((i:Int) + 1)) else none)=_
  rw [dt' (by rw [List.length_take];omega),hw,← List.take_succ_eq_append_getElem hi]
  exact own_l h m (i + 1) (by omega)
theorem own_v {C:CO} (h:CSz C):zt.V C=some C:=by
 refine zt.v _ ?_
 unfold zt.b
 have k:=own_l h C.length 0 (by omega)
 rw [List.take_zero] at k
 simp only
 rw [show zt.V0 C [] 0=_ from k]
 rfl
theorem large_l {C:CO} (hs:C.length ≤ 400):∀ (m i n:Nat),m + i=C.length→n ≤ 400 * i→∃ r,zi.V0 C (n:Int) (i:Int)=some r∧(r=Sum.inr true ∨ (∃ k,r=Sum.inl k∧∀ j,i ≤ j→(hj:j < C.length)→(tv C[j]).1.2.1.length ≤ 200∧(tv C[j]).2.1.length ≤ 200))
 | 0,i,n,hm,hn=>by
  refine ⟨_,zi.v0 _ _ _ (y:=Sum.inl (n:Int)) ?_,.inr ⟨_,rfl,fun j h1 h2=>absurd h2 (by omega)⟩⟩
  unfold zi.b0
  rw [df' (by omega)]
  rfl
 | m + 1,i,n,hm,hn=>by
  have hi:i < C.length:=by omega
  have eC:rdL (Ty.zero api_Term) C (i:Int)=C[i]:=rdT hi
  have hw:IntKind.wrap .i64 ((i:Int) + 1)=((i + 1:Nat):Int):=by rw [wrap64 (by omega) (by omega)];omega
  have hlr:xc.f (tv C[i])=some (decide (200 < (tv C[i]).1.2.1.length ∨ 200 < (tv C[i]).2.1.length)):=by
   unfold xc.f
   by_cases c1:200 < (tv C[i]).1.2.1.length
   ·rw [dt' (c:=(((tv C[i]).1.2.1.length:Nat):Int) > 200) (by omega),dt' (c:=200 < (tv C[i]).1.2.1.length ∨ 200 < (tv C[i]).2.1.length) (.inl c1)];rfl
   ·rw [df' (c:=(((tv C[i]).1.2.1.length:Nat):Int) > 200) (by omega)]
    show some (decide ((((tv C[i]).2.1.length:Nat):Int) > 200))=_
    congr 1
    exact decide_eq_decide.2 (by omega)
  by_cases hc:200 < (tv C[i]).1.2.1.length ∨ 200 < (tv C[i]).2.1.length
  ·refine ⟨_,zi.v0 _ _ _ (y:=Sum.inr true) ?_,.inl rfl⟩
   unfold zi.b0
   rw [dt' (by omega),dt' (by omega),eC,show xc.f C[i].2.2.2.2.1=_ from hlr,dt' hc]
   rfl
  ·obtain ⟨r,r1,r2⟩:=large_l hs m (i + 1) (n + ((tv C[i]).1.2.1.length + (tv C[i]).2.1.length)) (by omega) (by omega)
   refine ⟨r,zi.v0 _ _ _ ?_,?_⟩
   ·unfold zi.b0
    rw [dt' (by omega),dt' (by omega),eC,show xc.f C[i].2.2.2.2.1=_ from hlr,df' hc,hw]
    have he:IntKind.wrap .i64 ((n:Int) + IntKind.wrap .i64 ((((tv C[i]).1.2.1.length:Nat):Int) + (((tv C[i]).2.1.length:Nat):Int)))=((n + ((tv C[i]).1.2.1.length + (tv C[i]).2.1.length):Nat):Int):=by
     rw [wrap64 (n:=(((tv C[i]).1.2.1.length:Nat):Int) + (((tv C[i]).2.1.length:Nat):Int)) (by omega) (by omega),wrap64 (by omega) (by omega)]
     omega
    have he':IntKind.wrap .i64 ((n:Int) + IntKind.wrap .i64 (((List.length C[i].2.2.2.2.1.1.2.1:Nat):Int) + ((List.length C[i].2.2.2.2.1.2.1:Nat):Int)))=_:=he
    simp only [cond_true,cond_false,Option.bind_some]
    rw [he']
    exact r1
   ·rcases r2 with h | ⟨k,h1,h2⟩
    ·exact .inl h
    ·refine .inr ⟨k,h1,fun j hj hj2=>?_⟩
     by_cases hji:j=i
     ·subst hji
      omega
     ·exact h2 j (by omega) hj2
theorem large_v (C:CO):∃ g,zi.V C=some g∧(g=false→C.length ≤ 400∧∀ t ∈ C,(tv t).1.2.1.length ≤ 200∧(tv t).2.1.length ≤ 200):=by
 by_cases hl:C.length ≤ 400
 ·obtain ⟨r,r1,r2⟩:=large_l hl C.length 0 0 (by omega) (by omega)
  have r1':zi.V0 C 0 0=some r:=r1
  rcases r2 with rfl | ⟨k,rfl,h2⟩
  ·refine ⟨true,zi.v _ ?_,fun h=>by cases h⟩
   unfold zi.b
   rw [df' (by omega)]
   simp only [cond_false]
   rw [r1']
   rfl
  ·refine ⟨decide (k > 2000),zi.v _ ?_,fun _=>⟨hl,fun t ht=>?_⟩⟩
   ·unfold zi.b
    rw [df' (by omega)]
    simp only [cond_false]
    rw [r1']
    rfl
   ·obtain ⟨j,hj,rfl⟩:=List.getElem_of_mem ht
    exact h2 j (by omega) hj
 ·refine ⟨true,zi.v _ ?_,fun h=>by cases h⟩
  unfold zi.b
  rw [dt' (by omega)]
  rfl
def Limbs (C:CO):Prop:=∀ t ∈ C,Lb (tv t).1.2.1∧Lb (tv t).2.1
end
end Go.Proofs.YtlfcdmibknmjeaaGreatDoor.E
end
