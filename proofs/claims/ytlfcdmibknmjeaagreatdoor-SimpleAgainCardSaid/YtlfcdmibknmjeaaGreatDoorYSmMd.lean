import Derived.Test.YtlfcdmibknmjeaaGreatDoorYSmMc
section
namespace Go.Proofs.YtlfcdmibknmjeaaGreatDoor.E
open Go Go.Proofs.YtlfcdmibknmjeaaGreatDoor.Ev
set_option linter.unusedSimpArgs false
noncomputable section
def NoN (C:CO):Prop:=∀ i,At C i→tk (tI C i)=7→isL C (ta (tI C i))=false
theorem NoN.nil:NoN []:=fun i h=>absurd h.2 (by have:=h.1;simp;omega)
theorem NoN.put {C:CO} (h:Inv C) (hn:NoN C) {t:TE} (ht:GT ((C.length:Nat):Int) t) (hk:tk t=7→isL C (ta t)=false):NoN (putS C t).1:=by
 rcases putS_cases h t with ⟨i,hi,e,hp⟩ | ⟨hm,hp⟩
 ·rw [hp];exact hn
 ·rw [hp]
  have hx:Ext C (C ++ [t]):=⟨_,rfl⟩
  intro i hi h7
  by_cases hc:i < ((C.length:Nat):Int)
  ·have hi':At C i:=⟨hi.1,hc⟩
   have e:=hx.tI hi'
   have e2:tI (C ++ [t]) i=tI C i:=e
   show isL (C ++ [t]) (ta (tI (C ++ [t]) i))=false
   rw [show tk (tI (C ++ [t]) i)=tk (tI C i) by rw [e2]] at h7
   rw [e2]
   have hk:=((h.kids hi').1 (.inl h7)).1
   have:=hn i hi' h7
   unfold isL at this ⊢
   rw [show tI (C ++ [t]) (ta (tI C i))=tI C (ta (tI C i)) from hx.tI hk]
   exact this
  ·have hl:i=((C.length:Nat):Int):=by
    have:=hi.2
    rw [List.length_append,List.length_singleton] at this
    omega
   subst hl
   show isL (C ++ [t]) (ta (tI (C ++ [t]) ((C.length:Nat):Int)))=false
   rw [show tk (tI (C ++ [t]) ((C.length:Nat):Int))=tk t by rw [tI_new]] at h7
   rw [tI_new]
   have hka:At C (ta t):=by
    rcases ht with ⟨z,d,hc,rfl⟩ | ⟨n,hn,rfl⟩ | ⟨a,ha,rfl⟩ | ⟨a,n,ha,rfl⟩ | ⟨k,a,b,ha,rfl⟩
    ·exact absurd h7 (by show ¬ (1:Int)=7;omega)
    ·exact absurd h7 (by show ¬ (2:Int)=7;omega)
    ·exact ha
    ·exact absurd h7 (by show ¬ (8:Int)=7;omega)
    ·exact absurd h7 (by show ¬ k=7;omega)
   have:=hk h7
   unfold isL at this ⊢
   rw [show tI (C ++ [t]) (ta t)=tI C (ta t) from hx.tI hka]
   exact this
theorem NoN.lit {C:CO} (h:Inv C) (hn:NoN C) {x:RA} (hx:CanR x):NoN (litS C x).1:=hn.put h (GT_lit hx) fun h7=>absurd h7 (by show ¬ (1:Int)=7;omega)
theorem NoN.two {C:CO} (h:Inv C) (hn:NoN C) {k a b:Int} (hk:3 ≤ k∧k ≤ 6) (ha:At C a) (hb:At C b):NoN (putS C (mkT k a b 0 R0)).1:=hn.put h (GT_two hk ha hb) fun h7=>absurd h7 (by show ¬ k=7;omega)
theorem NoN.neg {C:CO} (h:Inv C) (hn:NoN C) {a:Int} (ha:At C a):NoN (negS C a).1:=by
 unfold negS
 cases hl:isL C a
 ·cases h7:(tk (tI C a) == 7)
  ·exact hn.put h (GT_neg ha) fun _=>hl
  ·exact hn
 ·exact hn.lit h (h.lit ha hl).neg
theorem NoN.mulT:∀ (n:Nat) {C:CO} {a b:Int},b.toNat < n→Inv C→NoN C→At C a→At C b→NoN (mulT C a b).1:=by
 intro n
 induction n with
 | zero=>intro C a b h;omega
 | succ n ih =>
  intro C a b hb0 h hn ha hb
  rw [E.mulT]
  cases hbo:bothS mulR C a b with
  | some x =>
   obtain ⟨_,_,h3,h4⟩:=bothS_some hbo
   exact hn.lit h (by rw [h4];exact ofR_can h3)
  | none =>
   cases hz:zo C a b with
   | some i=>exact hn
   | none =>
    simp only
    by_cases hc:isL C a=true∧tk (tI C b)=5∧isL C (ta (tI C b))=true∧(mulR (tv (tI C a)) (tv (tI C (ta (tI C b))))).2=0∧0 ≤ tb (tI C b)∧tb (tI C b) < b
    ·rw [dif_pos hc]
     obtain ⟨c1,c2,c3,c4,c5,c6⟩:=hc
     have hx:CanR (mulR (tv (tI C a)) (tv (tI C (ta (tI C b))))).1:=ofR_can c4
     obtain ⟨⟨o1,o2,o3⟩,_⟩:=litS_ok h hx
     have kb:=((h.kids hb).2 (by omega)).1
     exact ih (by omega) o1 (hn.lit h hx) o3 (o2.at kb)
    ·rw [dif_neg hc]
     exact hn.two h (by omega) ha hb
theorem NoN.mul {C:CO} (h:Inv C) (hn:NoN C) {a b:Int} (ha:At C a) (hb:At C b):NoN (mulS C a b).1:=by
 unfold mulS
 cases isL C b && !isL C a
 ·exact NoN.mulT (b.toNat + 1) (by omega) h hn ha hb
 ·exact NoN.mulT (a.toNat + 1) (by omega) h hn hb ha
theorem NoN.times {C:CO} (h:Inv C) (hn:NoN C) {x:RA} (hx:CanR x) {i:Int} (hi:At C i):NoN (timesS C x i).1:=by
 obtain ⟨⟨o1,o2,o3⟩,_⟩:=litS_ok h hx
 unfold timesS
 cases decide (rZ x=0)
 ·cases decide (rZ x=1) && decide (rD x=1)
  ·exact NoN.mul o1 (hn.lit h hx) o3 (o2.at hi)
  ·exact hn
 ·exact hn.lit h hx
theorem NoN.like {f:RA→RA→RA × Int} (hf:∀ x y,(f x y).2=0→CanR (f x y).1) {C:CO} (h:Inv C) (hn:NoN C) {a b:Int} (ha:At C a) (hb:likeB f C a b=true):NoN (likeS f C a b).1:=by
 unfold likeB at hb
 rw [Bool.and_eq_true,Bool.and_eq_true,beq_iff_eq,beq_iff_eq] at hb
 exact hn.times h (hf _ _ hb.2.2) (oft_ok h ha).2
theorem NoN.pow:∀ (k:Nat) {C:CO} {a n:Int},a.toNat < k→Inv C→NoN C→At C a→-128 ≤ n∧n ≤ 128→NoN (powS C a n).1:=by
 intro k
 induction k with
 | zero=>intro C a n h;omega
 | succ k ih =>
  intro C a n hk h hn ha hb
  rw [powS]
  by_cases n0:n=0
  ·rw [if_pos n0]
   exact hn.lit h (canR1 (by omega))
  ·rw [if_neg n0]
   by_cases n1:n=1
   ·rw [if_pos n1];exact hn
   ·rw [if_neg n1]
    cases hp:powB C a n with
    | some x =>
     simp only
     unfold powB at hp
     cases hA:isL C a <;> rw [hA] at hp
     ·cases hp
     ·cases hE:((pwN (tv (tI C a)) n).2 == 0) <;> rw [hE] at hp
      ·cases hp
      ·have hx:=Option.some.inj hp
       exact hn.lit h (by rw [← hx];exact pwN_can (h.lit ha hA) (by simpa using hE))
    | none =>
     simp only
     by_cases hc:tk (tI C a)=8∧-128 ≤ tn (tI C a) * n∧tn (tI C a) * n ≤ 128∧0 ≤ ta (tI C a)∧ta (tI C a) < a
     ·rw [dif_pos hc]
      exact ih (by omega) h hn ((h.kids ha).1 (by omega)).1 ⟨hc.2.1,hc.2.2.1⟩
     ·rw [dif_neg hc]
      exact hn.put h (GT_pow ha hb) fun h7=>absurd h7 (by show ¬ (8:Int)=7;omega)
theorem NoN.term {M:CO} (h:Inv M) (hn:NoN M) {i:Int} {t:TE} (ht:GT i t) {l:List Int} (hk:Kids M t l):NoN (termS M t l).1:=by
 obtain ⟨k1,k2⟩:=hk
 rcases ht with ⟨z,d,hc,rfl⟩ | ⟨n,hn',rfl⟩ | ⟨a,ha,rfl⟩ | ⟨a,n,ha,rfl⟩ | ⟨k,a,b,ha,rfl⟩
 ·exact hn.lit h ⟨z,d,hc,rfl⟩
 ·exact hn.put h (.inr (.inl ⟨n,hn',rfl⟩)) fun h7=>absurd h7 (by show ¬ (2:Int)=7;omega)
 ·exact hn.neg h (k1 (.inl rfl)).2
 ·exact NoN.pow ((atI l a).toNat + 1) (by show (atI l a).toNat < _;omega) h hn (k1 (.inr (.inl rfl))).2 ⟨ha.2.2.1,ha.2.2.2⟩
 ·have b2:At M (atI l a):=(k1 (.inr (.inr ⟨ha.1,ha.2.1⟩))).2
  have c2:At M (atI l b):=(k2 ⟨ha.1,ha.2.1⟩).2
  have:k=3 ∨ k=4 ∨ k=5 ∨ k=6:=by omega
  rcases this with rfl | rfl | rfl | rfl
  ·show NoN (addS M (atI l a) (atI l b)).1
   unfold addS
   cases hx:bothS addR M (atI l a) (atI l b) with
   | some x =>
    obtain ⟨_,_,h3,h4⟩:=bothS_some hx
    exact hn.lit h (by rw [h4];exact ofR_can h3)
   | none =>
    simp only
    cases isV M (atI l b) 0
    ·cases isV M (atI l a) 0
     ·cases hk:likeB addR M (atI l a) (atI l b)
      ·exact hn.two h (by omega) b2 c2
      ·exact hn.like (fun _ _ e=>ofR_can e) h b2 hk
     ·exact hn
    ·exact hn
  ·show NoN (subS M (atI l a) (atI l b)).1
   unfold subS
   cases hx:bothS subR M (atI l a) (atI l b) with
   | some x =>
    obtain ⟨_,_,h3,h4⟩:=bothS_some hx
    exact hn.lit h (by rw [h4];exact ofR_can h3)
   | none =>
    simp only
    cases isV M (atI l b) 0
    ·cases isV M (atI l a) 0
     ·cases hk:likeB subR M (atI l a) (atI l b)
      ·exact hn.two h (by omega) b2 c2
      ·exact hn.like (fun _ _ e=>ofR_can e) h b2 hk
     ·exact hn.neg h c2
    ·exact hn
  ·exact hn.mul h b2 c2
  ·show NoN (divS M (atI l a) (atI l b)).1
   unfold divS
   cases hx:bothS divR M (atI l a) (atI l b) with
   | some x =>
    obtain ⟨_,_,h3,h4⟩:=bothS_some hx
    exact hn.lit h (by rw [h4];exact ofR_can h3)
   | none =>
    simp only
    cases isV M (atI l b) 1
    ·cases isV M (atI l a) 0
     ·exact hn.two h (by omega) b2 c2
     ·exact hn
    ·exact hn
theorem NoN.run {C:CO} (hC:Core C) {nd:List Bool} {n:Nat} (hcl:Closed C nd n) (hn:n ≤ C.length) (hs:n ≤ 100):∀ (m i:Nat) (s:St),m + i=n→Done nd n i s→NoN s.1→NoN (runS C nd m i s).1
 | 0,_,_,_,_,h=>h
 | m + 1,i,s,hm,hd,h=>by
  rw [runS]
  refine NoN.run hC hcl hn hs m (i + 1) _ (by omega) (Done.step hC hcl hd (by omega) hn (by omega)).1 ?_
  unfold stepS
  cases hr:rdL false nd (i:Int)
  ·exact h
  ·exact h.term hd.1 (hC.1 i (by omega)) (hd.kids hC hcl (by omega) hn hr)
end
end Go.Proofs.YtlfcdmibknmjeaaGreatDoor.E
end
section
namespace Go.Proofs.YtlfcdmibknmjeaaGreatDoor.E
open Go Go.Proofs.YtlfcdmibknmjeaaGreatDoor.Ev
set_option linter.unusedSimpArgs false
noncomputable section
theorem rd_app {l m:List Bool} {i:Nat} (h:i < l.length):rdL false (l ++ m) (i:Int)=rdL false l (i:Int):=by
 unfold rdL
 rw [List.getD_eq_getElem?_getD,List.getD_eq_getElem?_getD,List.getElem?_append_left (by omega)]
theorem atI_app {l m:List Int} {i:Int} (h:0 ≤ i∧i < ((l.length:Nat):Int)):atI (l ++ m) i=atI l i:=by
 unfold atI rdL
 rw [List.getD_eq_getElem?_getD,List.getD_eq_getElem?_getD,List.getElem?_append_left (by omega)]
theorem mark_app {k a b:Int} {out o2:List Bool} (ha:(k=7 ∨ k=8 ∨ two k=true)→a.toNat < out.length) (hb:two k=true→b.toNat < out.length):markK k a b (out ++ o2)=markK k a b out ++ o2:=by
 unfold markK
 cases hk:(k == 7) || (k == 8)
 ·cases hk2:two k
  ·rfl
  ·show ((out ++ o2).set a.toNat true).set b.toNat true=(out.set a.toNat true).set b.toNat true ++ o2
   rw [List.set_append_left _ _ (ha (.inr (.inr hk2))),List.set_append_left _ _ (by rw [List.length_set];exact hb hk2)]
 ·show (out ++ o2).set a.toNat true=out.set a.toNat true ++ o2
  rw [Bool.or_eq_true,beq_iff_eq,beq_iff_eq] at hk
  rw [List.set_append_left _ _ (ha (by rcases hk with hk | hk <;> simp [hk]))]
theorem mark_len (k a b:Int) (out:List Bool):(markK k a b out).length=out.length:=by
 unfold markK
 cases (k == 7) || (k == 8)
 ·cases two k
  ·rfl
  ·show ((out.set _ true).set _ true).length=_
   rw [List.length_set,List.length_set]
 ·show (out.set _ true).length=_
  rw [List.length_set]
theorem need_ext {C:CO} (hC:Core C) (E:CO) (o2:List Bool):∀ (i:Nat) (out:List Bool),i ≤ C.length→out.length=C.length→needS (C ++ E) i (out ++ o2)=needS C i out ++ o2
 | 0,_,_,_=>rfl
 | i + 1,out,hi,ho=>by
  have e:tAt (C ++ E) i=tAt C i:=tI_old C E (i:=(i:Int)) ⟨by omega,by omega⟩
  rw [needS,needS,rd_app (by omega),e]
  cases rdL false out (i:Int)
  ·exact need_ext hC E o2 i out (by omega) ho
  ·obtain ⟨k,a,b,n,v,ht,h1,h2,h3,h4⟩:=GT_cases (hC.1 i (by omega))
   rw [ht]
   show needS (C ++ E) i (markK k a b (out ++ o2))=needS C i (markK k a b out) ++ o2
   rw [mark_app (fun hk=>by have:=h3 hk;omega) (fun hk=>by have:=h4 hk;omega)]
   exact need_ext hC E o2 i _ (by omega) (by rw [mark_len,ho])
theorem term_ext {i:Int} {t:TE} (ht:GT i t) (M:CO) {l:List Int} (l2:List Int) (hi:i ≤ ((l.length:Nat):Int)):termS M t (l ++ l2)=termS M t l:=by
 rcases ht with ⟨z,d,hc,rfl⟩ | ⟨n,hn,rfl⟩ | ⟨a,ha,rfl⟩ | ⟨a,n,ha,rfl⟩ | ⟨k,a,b,ha,rfl⟩
 ·rfl
 ·rfl
 ·show negS M (atI (l ++ l2) a)=negS M (atI l a)
  rw [atI_app (by omega)]
 ·show powS M (atI (l ++ l2) a) n=powS M (atI l a) n
  rw [atI_app (by omega)]
 ·have e1:atI (l ++ l2) a=atI l a:=atI_app (by omega)
  have e2:atI (l ++ l2) b=atI l b:=atI_app (by omega)
  unfold termS
  rw [show ta (k,(a,(b,((0:Int),(R0,())))))=a from rfl,show tb (k,(a,(b,((0:Int),(R0,())))))=b from rfl,e1,e2]
theorem run_len (C:CO) (nd:List Bool):∀ (m i:Nat) (s:St),(runS C nd m i s).2.length=s.2.length
 | 0,_,_=>rfl
 | m + 1,i,s=>by
  rw [runS,run_len C nd m]
  unfold stepS
  cases rdL false nd (i:Int)
  ·rfl
  ·show (s.2.set i _).length=_
   rw [List.length_set]
theorem run_snoc (C:CO) (nd:List Bool):∀ (m i:Nat) (s:St),runS C nd (m + 1) i s=stepS C nd (i + m) (runS C nd m i s)
 | 0,_,_=>rfl
 | m + 1,i,s=>by
  rw [runS,run_snoc C nd m (i + 1),runS,show i + 1 + m=i + (m + 1) by omega]
theorem run_ext {C:CO} (hC:Core C) (E:CO) {nd:List Bool} (hnd:nd.length=C.length) (o2:List Bool) (l2:List Int):∀ (m i:Nat) (s:St),m + i ≤ C.length→m + i ≤ s.2.length →
 runS (C ++ E) (nd ++ o2) m i (s.1,s.2 ++ l2)=((runS C nd m i s).1,(runS C nd m i s).2 ++ l2)
 | 0,_,_,_,_=>rfl
 | m + 1,i,s,h1,h2=>by
  have e:tI (C ++ E) (i:Int)=tI C (i:Int):=tI_old C E ⟨by omega,by omega⟩
  have es:stepS (C ++ E) (nd ++ o2) i (s.1,s.2 ++ l2)=((stepS C nd i s).1,(stepS C nd i s).2 ++ l2):=by
   unfold stepS
   rw [rd_app (by omega),e]
   cases rdL false nd (i:Int)
   ·rfl
   ·show ((termS s.1 (tI C (i:Int)) (s.2 ++ l2)).1,(s.2 ++ l2).set i (termS s.1 (tI C (i:Int)) (s.2 ++ l2)).2)=_
    rw [term_ext (hC.1 i (by omega)) s.1 (t:=tI C (i:Int)) l2 (by omega),List.set_append_left _ _ (by omega)]
    rfl
  rw [runS,runS,es]
  refine run_ext hC E hnd o2 l2 m (i + 1) (stepS C nd i s) (by omega) ?_
  unfold stepS
  cases rdL false nd (i:Int)
  ·show m + (i + 1) ≤ s.2.length
   omega
  ·show m + (i + 1) ≤ (s.2.set i _).length
   rw [List.length_set]
   omega
theorem Core.snoc {C:CO} (h:Core C) {t:TE} (ht:GT ((C.length:Nat):Int) t) (hl:C.length < 1000000):Core (C ++ [t]):=by
 refine ⟨fun j hj=>?_,by rw [List.length_append,List.length_singleton];omega⟩
 rw [List.length_append,List.length_singleton] at hj
 by_cases hc:j < C.length
 ·have e:tAt (C ++ [t]) j=tAt C j:=tI_old C [t] (i:=(j:Int)) ⟨by omega,by omega⟩
  rw [e]
  exact h.1 j hc
 ·have:j=C.length:=by omega
  subst this
  have e:tAt (C ++ [t]) C.length=t:=tI_new C t
  rw [e]
  exact ht
theorem rep_snoc {α:Type} (n:Nat) (x:α):List.replicate (n + 1) x=List.replicate n x ++ [x]:=by rw [← List.replicate_append_replicate];rfl
theorem set_last {α:Type} {l:List α} {n:Nat} (h:l.length=n) (x y:α):(l ++ [x]).set n y=l ++ [y]:=by
 subst h
 rw [List.set_append_right _ _ (Nat.le_refl _),Nat.sub_self]
 rfl
theorem rd_last {l:List Bool} {n:Nat} (h:l.length=n) (x:Bool):rdL false (l ++ [x]) (n:Int)=x:=by
 subst h
 unfold rdL
 rw [List.getD_eq_getElem?_getD,List.getElem?_append_right (by omega),show ((l.length:Nat):Int).toNat - l.length=0 by omega]
 rfl
theorem needs1 {C:CO} (hC:Core C) {k:Nat} (hk:k + 1=C.length):needsS (C ++ [mkT 4 (k:Int) (k:Int) 0 R0]) C.length=needsS C k ++ [true]:=by
 have hr:(List.replicate C.length false).length=C.length:=List.length_replicate
 unfold needsS
 rw [List.length_append,List.length_singleton,rep_snoc,set_last hr,needS,rd_last hr]
 have e:tAt (C ++ [mkT 4 (k:Int) (k:Int) 0 R0]) C.length=mkT 4 (k:Int) (k:Int) 0 R0:=tI_new C _
 rw [e]
 show needS _ C.length (markK 4 (k:Int) (k:Int) (List.replicate C.length false ++ [true]))=_
 rw [mark_app (fun _=>by omega) (fun _=>by omega),need_ext hC _ _ C.length _ (Nat.le_refl _) (by rw [mark_len,hr])]
 congr 1
 rw [hk]
 congr 1
 show ((List.replicate C.length false).set (k:Int).toNat true).set (k:Int).toNat true=_
 rw [List.set_set,Int.toNat_natCast]
theorem sim1 {C:CO} (hC:Core C) {k:Nat} (hk:k + 1=C.length):(simS (C ++ [mkT 4 (k:Int) (k:Int) 0 R0]) C.length).1=(subS (simS C k).1 (atI (simS C k).2 (k:Int)) (atI (simS C k).2 (k:Int))).1 ∧
 atI (simS (C ++ [mkT 4 (k:Int) (k:Int) 0 R0]) C.length).2 ((C.length:Nat):Int)=(subS (simS C k).1 (atI (simS C k).2 (k:Int)) (atI (simS C k).2 (k:Int))).2:=by
 have hl:(simS C k).2.length=C.length:=by unfold simS;rw [run_len,List.length_replicate,hk]
 have e0:simS (C ++ [mkT 4 (k:Int) (k:Int) 0 R0]) C.length=stepS (C ++ [mkT 4 (k:Int) (k:Int) 0 R0]) (needsS C k ++ [true]) C.length ((simS C k).1,(simS C k).2 ++ [0]):=by
  unfold simS
  rw [needs1 hC hk,run_snoc,Nat.zero_add,rep_snoc]
  have:=run_ext hC [mkT 4 (k:Int) (k:Int) 0 R0] (needs_len C k) [true] [0] C.length 0 ([],List.replicate C.length 0) (by omega) (by show _ ≤ (List.replicate C.length (0:Int)).length;rw [List.length_replicate];omega)
  rw [this,hk]
 have e1:termS (simS C k).1 (mkT 4 (k:Int) (k:Int) 0 R0) ((simS C k).2 ++ [0])=subS (simS C k).1 (atI (simS C k).2 (k:Int)) (atI (simS C k).2 (k:Int)):=by
  show subS (simS C k).1 (atI ((simS C k).2 ++ [0]) (k:Int)) (atI ((simS C k).2 ++ [0]) (k:Int))=_
  rw [atI_app (by omega)]
 have e2:stepS (C ++ [mkT 4 (k:Int) (k:Int) 0 R0]) (needsS C k ++ [true]) C.length ((simS C k).1,(simS C k).2 ++ [0])=((subS (simS C k).1 (atI (simS C k).2 (k:Int)) (atI (simS C k).2 (k:Int))).1,(simS C k).2 ++ [(subS (simS C k).1 (atI (simS C k).2 (k:Int)) (atI (simS C k).2 (k:Int))).2]):=by
  unfold stepS
  rw [rd_last (needs_len C k),tI_new]
  simp only [cond_true]
  rw [e1,set_last hl]
 rw [e0,e2]
 refine ⟨rfl,?_⟩
 show atI ((simS C k).2 ++ [_]) ((C.length:Nat):Int)=_
 unfold atI rdL
 rw [List.getD_eq_getElem?_getD,List.getElem?_append_right (by omega),show ((C.length:Nat):Int).toNat - (simS C k).2.length=0 by omega]
 rfl
end
end Go.Proofs.YtlfcdmibknmjeaaGreatDoor.E
end
section
namespace Go.Proofs.YtlfcdmibknmjeaaGreatDoor.E
open Go Go.Proofs.YtlfcdmibknmjeaaGreatDoor.Ev
set_option linter.unusedSimpArgs false
noncomputable section
theorem ofR_zero {e:Nat} (he:0 < e):ofR 0 e=(R 0 1,0):=by
 have hq:qN 0 e=0:=by
  unfold qN
  rw [df' (by omega)]
  show ((0 / Nat.gcd 0 e:Nat):Int)=0
  rw [Nat.zero_div]
  rfl
 have hd:qD 0 e=1:=by
  unfold qD
  rw [show (0:Int).natAbs=0 from rfl,Nat.gcd_zero_left,Nat.div_self he]
 unfold ofR
 rw [if_neg (by omega),hq,hd,limR_can (can1 (v:=0) (by omega))]
theorem subR_self {x:RA} (h:CanR x):subR x x=(R 0 1,0):=by
 obtain ⟨z,d,h,rfl⟩:=h
 unfold subR
 rw [rZ_R,rD_R,Int.neg_mul,Int.add_right_neg,ofR_zero (Nat.mul_pos h.1 h.1)]
theorem sub_self {y:CO} (h:Inv y) (hn:NoN y) {m:Int} (hm:At y m) (hl:isL y m=false) (hx:(tk (tI y m)=5∧isL y (ta (tI y m))=true)→isL y (tb (tI y m))=false):subS y m m=litS y (R 0 1):=by
 obtain ⟨c1,c2⟩:=oft_ok h hm
 have hs:=subR_self c1
 have hV:isV y m 0=false:=by unfold isV;rw [hl];rfl
 have ho:isL y (oftS y m).2=false:=by
  unfold oftS
  cases c7:(tk (tI y m) == 7)
  ·cases c5:((tk (tI y m) == 5) && isL y (ta (tI y m)))
   ·exact hl
   ·rw [Bool.and_eq_true,beq_iff_eq] at c5
    exact hx c5
  ·exact hn m hm (by simpa using c7)
 have hk:likeB subR y m m=true:=by
  unfold likeB
  rw [ho,hs]
  simp
 unfold subS
 have hb:bothS subR y m m=none:=by unfold bothS;rw [hl];rfl
 rw [hb,hV,hk]
 show likeS subR y m m=_
 unfold likeS timesS
 rw [hs]
 show (bif decide (rZ (R 0 1)=0) then litS y (R 0 1) else _)=_
 rw [rZ_R]
 rfl
theorem mulR_comm (x y:RA):mulR x y=mulR y x:=by
 unfold mulR
 rw [Int.mul_comm,Nat.mul_comm]
theorem mul_sym {C:CO} {a L:Int} (hL:isL C L=true) (hs:isL C a=true→(mulR (tv (tI C a)) (tv (tI C L))).2=0):mulS C a L=mulS C L a:=by
 unfold mulS
 rw [hL]
 cases hA:isL C a
 ·rfl
 ·show mulT C a L=mulT C L a
  have hz:=hs hA
  have b1:bothS mulR C a L=some (mulR (tv (tI C a)) (tv (tI C L))).1:=by unfold bothS;rw [hL,hA,hz];rfl
  have b2:bothS mulR C L a=some (mulR (tv (tI C a)) (tv (tI C L))).1:=by unfold bothS;rw [hL,hA,mulR_comm,hz];rfl
  have m1:mulT C a L=litS C (mulR (tv (tI C a)) (tv (tI C L))).1:=by rw [mulT,b1]
  have m2:mulT C L a=litS C (mulR (tv (tI C a)) (tv (tI C L))).1:=by rw [mulT,b2]
  rw [m1,m2]
theorem mulR_small {x y:RA} (hx:CanR x) (hy:CanR y) (h1:x.1.2.1.length ≤ 30) (h2:x.2.1.length ≤ 30) (h3:y.1.2.1.length ≤ 4) (h4:y.2.1.length ≤ 4):(mulR x y).2=0:=by
 obtain ⟨z,d,hc,rfl⟩:=hx
 obtain ⟨w,e,hc',rfl⟩:=hy
 have h1':(limbs z.natAbs).length ≤ 30:=h1
 have h2':(limbs d).length ≤ 30:=h2
 have h3':(limbs w.natAbs).length ≤ 4:=h3
 have h4':(limbs e).length ≤ 4:=h4
 unfold mulR ofR
 rw [rZ_R,rZ_R,rD_R,rD_R,if_neg (Nat.ne_of_gt (Nat.mul_pos hc.1 hc'.1))]
 have l1:=zlen_mul z w
 have l2:=len_mul d e
 have q1:(limbs (qN (z * w) (d * e)).natAbs).length ≤ (limbs (z * w).natAbs).length:=by rw [qN_abs];exact len_mono (Nat.div_le_self _ _)
 have q2:(limbs (qD (z * w) (d * e))).length ≤ (limbs (d * e)).length:=len_mono (Nat.div_le_self _ _)
 unfold limR
 rw [if_neg (by
  show ¬ (64 < (limbs (qN (z * w) (d * e)).natAbs).length ∨ 64 < (limbs (qD (z * w) (d * e))).length)
  omega)]
theorem needs2 {C:CO} (hC:Core C) (hl:C.length < 900000) {k:Nat} (hk:k + 1=C.length) {v:RA} (hv:CanR v) {a b:Int} (hab:(a=(k:Int)∧b=((C.length:Nat):Int)) ∨ (a=((C.length:Nat):Int)∧b=(k:Int))) :
 needsS ((C ++ [mkT 1 0 0 0 v]) ++ [mkT 5 a b 0 R0]) (C.length + 1)=(needsS C k ++ [true]) ++ [true]:=by
 have hr:∀ n,(List.replicate n false).length=n:=fun n=>List.length_replicate
 have hC1:Core (C ++ [mkT 1 0 0 0 v]):=hC.snoc (GT_lit hv) (by omega)
 have hl1:(C ++ [mkT 1 0 0 0 v]).length=C.length + 1:=by rw [List.length_append,List.length_singleton]
 have e:tAt ((C ++ [mkT 1 0 0 0 v]) ++ [mkT 5 a b 0 R0]) (C.length + 1)=mkT 5 a b 0 R0:=by
  have:=tI_new (C ++ [mkT 1 0 0 0 v]) (mkT 5 a b 0 R0)
  rw [hl1] at this
  exact this
 have hm:markK 5 a b (List.replicate (C.length + 1) false)=(List.replicate C.length false).set k true ++ [true]:=by
  rw [rep_snoc]
  show (((List.replicate C.length false ++ [false]).set a.toNat true).set b.toNat true)=_
  rcases hab with ⟨rfl,rfl⟩ | ⟨rfl,rfl⟩
  ·rw [Int.toNat_natCast,Int.toNat_natCast,List.set_append_left _ _ (by rw [hr];omega),set_last (by rw [List.length_set,hr])]
  ·rw [Int.toNat_natCast,Int.toNat_natCast,set_last (hr _),List.set_append_left _ _ (by rw [hr];omega)]
 unfold needsS
 rw [show ((C ++ [mkT 1 0 0 0 v]) ++ [mkT 5 a b 0 R0]).length=C.length + 1 + 1 by rw [List.length_append,hl1,List.length_singleton],rep_snoc (C.length + 1),set_last (hr _),needS,rd_last (hr _),e]
 show needS _ (C.length + 1) (markK 5 a b (List.replicate (C.length + 1) false ++ [true]))=_
 rw [mark_app (fun _=>by rw [hr];omega) (fun _=>by rw [hr];omega),need_ext hC1 _ _ (C.length + 1) _ (by omega) (by rw [mark_len,hr,hl1]),hm]
 congr 1
 have e1:tAt (C ++ [mkT 1 0 0 0 v]) C.length=mkT 1 0 0 0 v:=tI_new C _
 rw [needS,rd_last (by rw [List.length_set,hr]),e1]
 show needS (C ++ [mkT 1 0 0 0 v]) C.length ((List.replicate C.length false).set k true ++ [true])=_
 rw [need_ext hC _ _ C.length _ (Nat.le_refl _) (by rw [List.length_set,hr]),hk]
theorem sim2 {C:CO} (hC:Core C) (hl:C.length < 900000) {k:Nat} (hk:k + 1=C.length) {v:RA} (hv:CanR v) {a b:Int} (hab:(a=(k:Int)∧b=((C.length:Nat):Int)) ∨ (a=((C.length:Nat):Int)∧b=(k:Int))) :
 ∃ X Y:Int,((a=(k:Int)∧X=atI (simS C k).2 (k:Int)∧Y=(litS (simS C k).1 v).2) ∨ (b=(k:Int)∧Y=atI (simS C k).2 (k:Int)∧X=(litS (simS C k).1 v).2)) ∧
 (simS ((C ++ [mkT 1 0 0 0 v]) ++ [mkT 5 a b 0 R0]) (C.length + 1)).1=(mulS (litS (simS C k).1 v).1 X Y).1∧atI (simS ((C ++ [mkT 1 0 0 0 v]) ++ [mkT 5 a b 0 R0]) (C.length + 1)).2 ((C.length + 1:Nat):Int)=(mulS (litS (simS C k).1 v).1 X Y).2:=by
 have hC1:Core (C ++ [mkT 1 0 0 0 v]):=hC.snoc (GT_lit hv) (by omega)
 have hl1:(C ++ [mkT 1 0 0 0 v]).length=C.length + 1:=by rw [List.length_append,List.length_singleton]
 have hlen:(simS C k).2.length=C.length:=by unfold simS;rw [run_len,List.length_replicate,hk]
 have s1:runS (C ++ [mkT 1 0 0 0 v]) (needsS C k ++ [true]) (C.length + 1) 0 ([],List.replicate (C.length + 1) 0)=((litS (simS C k).1 v).1,(simS C k).2 ++ [(litS (simS C k).1 v).2]):=by
  rw [run_snoc,Nat.zero_add,rep_snoc]
  have:=run_ext hC [mkT 1 0 0 0 v] (needs_len C k) [true] [0] C.length 0 ([],List.replicate C.length 0) (by omega) (by show _ ≤ (List.replicate C.length (0:Int)).length;rw [List.length_replicate];omega)
  rw [this]
  have e:runS C (needsS C k) C.length 0 ([],List.replicate C.length 0)=simS C k:=by unfold simS;rw [hk]
  rw [e]
  unfold stepS
  rw [rd_last (needs_len C k),tI_new]
  simp only [cond_true]
  show ((litS (simS C k).1 v).1,((simS C k).2 ++ [0]).set C.length (litS (simS C k).1 v).2)=_
  rw [set_last hlen]
 have e0:simS ((C ++ [mkT 1 0 0 0 v]) ++ [mkT 5 a b 0 R0]) (C.length + 1)=stepS ((C ++ [mkT 1 0 0 0 v]) ++ [mkT 5 a b 0 R0]) ((needsS C k ++ [true]) ++ [true]) (C.length + 1) ((litS (simS C k).1 v).1,((simS C k).2 ++ [(litS (simS C k).1 v).2]) ++ [0]):=by
  unfold simS
  rw [needs2 hC hl hk hv hab,run_snoc,Nat.zero_add,rep_snoc (C.length + 1)]
  have:=run_ext hC1 [mkT 5 a b 0 R0] (nd:=needsS C k ++ [true]) (by rw [List.length_append,needs_len,hl1,List.length_singleton]) [true] [0] (C.length + 1) 0 ([],List.replicate (C.length + 1) 0) (by omega) (by show _ ≤ (List.replicate (C.length + 1) (0:Int)).length;rw [List.length_replicate];omega)
  rw [this,s1]
  rfl
 have hlen2:((simS C k).2 ++ [(litS (simS C k).1 v).2]).length=C.length + 1:=by rw [List.length_append,List.length_singleton,hlen]
 have ak:atI (((simS C k).2 ++ [(litS (simS C k).1 v).2]) ++ [0]) (k:Int)=atI (simS C k).2 (k:Int):=by rw [atI_app (by omega),atI_app (by omega)]
 have an:atI (((simS C k).2 ++ [(litS (simS C k).1 v).2]) ++ [0]) ((C.length:Nat):Int)=(litS (simS C k).1 v).2:=by
  rw [atI_app (by omega)]
  unfold atI rdL
  rw [List.getD_eq_getElem?_getD,List.getElem?_append_right (by omega),show ((C.length:Nat):Int).toNat - (simS C k).2.length=0 by omega]
  rfl
 have e2:∀ X Y,atI (((simS C k).2 ++ [(litS (simS C k).1 v).2]) ++ [0]) a=X→atI (((simS C k).2 ++ [(litS (simS C k).1 v).2]) ++ [0]) b=Y →
  stepS ((C ++ [mkT 1 0 0 0 v]) ++ [mkT 5 a b 0 R0]) ((needsS C k ++ [true]) ++ [true]) (C.length + 1) ((litS (simS C k).1 v).1,((simS C k).2 ++ [(litS (simS C k).1 v).2]) ++ [0])=((mulS (litS (simS C k).1 v).1 X Y).1,((simS C k).2 ++ [(litS (simS C k).1 v).2]) ++ [(mulS (litS (simS C k).1 v).1 X Y).2]):=fun X Y hX hY=>by
  unfold stepS
  have hnl:(needsS C k ++ [true]).length=C.length + 1:=by rw [List.length_append,needs_len,List.length_singleton]
  have et:=tI_new (C ++ [mkT 1 0 0 0 v]) (mkT 5 a b 0 R0)
  rw [hl1] at et
  rw [rd_last hnl,et]
  simp only [cond_true]
  show ((mulS (litS (simS C k).1 v).1 (atI (((simS C k).2 ++ [(litS (simS C k).1 v).2]) ++ [0]) a) (atI (((simS C k).2 ++ [(litS (simS C k).1 v).2]) ++ [0]) b)).1,(((simS C k).2 ++ [(litS (simS C k).1 v).2]) ++ [0]).set (C.length + 1) (mulS (litS (simS C k).1 v).1 (atI (((simS C k).2 ++ [(litS (simS C k).1 v).2]) ++ [0]) a) (atI (((simS C k).2 ++ [(litS (simS C k).1 v).2]) ++ [0]) b)).2)=_
  rw [hX,hY,set_last hlen2]
 have last:∀ z:Int,atI (((simS C k).2 ++ [(litS (simS C k).1 v).2]) ++ [z]) ((C.length + 1:Nat):Int)=z:=fun z=>by
  unfold atI rdL
  rw [List.getD_eq_getElem?_getD,List.getElem?_append_right (by omega),show ((C.length + 1:Nat):Int).toNat - ((simS C k).2 ++ [(litS (simS C k).1 v).2]).length=0 by omega]
  rfl
 rcases hab with ⟨rfl,rfl⟩ | ⟨rfl,rfl⟩
 ·refine ⟨_,_,.inl ⟨rfl,rfl,rfl⟩,?_,?_⟩
  ·rw [e0,e2 _ _ ak an]
  ·rw [e0,e2 _ _ ak an,last]
 ·refine ⟨_,_,.inr ⟨rfl,rfl,rfl⟩,?_,?_⟩
  ·rw [e0,e2 _ _ an ak]
  ·rw [e0,e2 _ _ an ak,last]
end
end Go.Proofs.YtlfcdmibknmjeaaGreatDoor.E
end
section
namespace Go.Proofs.YtlfcdmibknmjeaaGreatDoor.E
open Go Go.Proofs.YtlfcdmibknmjeaaGreatDoor.Ev
set_option linter.unusedSimpArgs false
noncomputable section
theorem tame0 {C:CO} (L:List RA) (hs:C.length ≤ 1000000):∀ m i:Nat,m + i=C.length→∃ r,zh.V0 C L (i:Int)=some r∧(r=Sum.inr false ∨ r=Sum.inl (C,L))
 | 0,i,hm=>by
  refine ⟨_,zh.v0 _ _ _ (y:=Sum.inl (C,L)) ?_,.inr rfl⟩
  unfold zh.b0
  rw [df' (by omega)]
  rfl
 | m + 1,i,hm=>by
  obtain ⟨r,r1,r2⟩:=tame0 L hs m (i + 1) (by omega)
  have hw:IntKind.wrap .i64 ((i:Int) + 1)=((i + 1:Nat):Int):=by rw [wrap64 (by omega) (by omega)];omega
  cases c1:decide ((((List.length (rdL (Ty.zero api_Term) C (i:Int)).2.2.2.2.1.1.2.1):Nat):Int) > (4:Int))
  ·cases c2:decide ((((List.length (rdL (Ty.zero api_Term) C (i:Int)).2.2.2.2.1.2.1):Nat):Int) > (4:Int))
   ·refine ⟨r,zh.v0 _ _ _ ?_,r2⟩
    unfold zh.b0
    rw [dt' (c:=(i:Int) < ((C.length:Nat):Int)) (by omega),dt' (c:=(0:Int) ≤ (i:Int)∧(i:Int) < ((C.length:Nat):Int)) (by omega),c1,c2,hw]
    exact r1
   ·refine ⟨_,zh.v0 _ _ _ (y:=Sum.inr false) ?_,.inl rfl⟩
    unfold zh.b0
    rw [dt' (c:=(i:Int) < ((C.length:Nat):Int)) (by omega),dt' (c:=(0:Int) ≤ (i:Int)∧(i:Int) < ((C.length:Nat):Int)) (by omega),c1,c2]
    rfl
  ·refine ⟨_,zh.v0 _ _ _ (y:=Sum.inr false) ?_,.inl rfl⟩
   unfold zh.b0
   rw [dt' (c:=(i:Int) < ((C.length:Nat):Int)) (by omega),dt' (c:=(0:Int) ≤ (i:Int)∧(i:Int) < ((C.length:Nat):Int)) (by omega),c1]
   rfl
theorem tame_v {C:CO} (v:RA) (hs:C.length ≤ 1000000):∃ b,zh.V C [v]=some b∧(b=true→v.1.2.1.length ≤ 4∧v.2.1.length ≤ 4):=by
 obtain ⟨r,r1,r2⟩:=tame0 [v] hs C.length 0 (by omega)
 have r1':zh.V0 C [v] 0=some r:=r1
 rcases r2 with rfl | rfl
 ·refine ⟨false,zh.v _ _ ?_,fun h=>by cases h⟩
  unfold zh.b
  simp only
  rw [r1']
  rfl
 ·have e1:zh.V1 C [v] 1=some (Sum.inl C):=zh.v1 _ _ _ rfl
  have e0:zh.V1 C [v] 0=some (bif decide (((v.1.2.1.length:Nat):Int) > 4) then Sum.inr false else bif decide (((v.2.1.length:Nat):Int) > 4) then Sum.inr false else Sum.inl C):=by
   refine zh.v1 _ _ _ ?_
   unfold zh.b1
   show (bif decide (((v.1.2.1.length:Nat):Int) > 4) then some (Sum.inr false) else (bif decide (((v.2.1.length:Nat):Int) > 4) then some (Sum.inr false) else zh.V1 C [v] 1))=_
   rw [e1]
   cases decide (((v.1.2.1.length:Nat):Int) > 4)
   ·cases decide (((v.2.1.length:Nat):Int) > 4) <;> rfl
   ·rfl
  by_cases c1:4 < v.1.2.1.length
  ·refine ⟨false,zh.v _ _ ?_,fun h=>by cases h⟩
   unfold zh.b
   simp only
   rw [r1']
   simp only [Option.bind_some,Sum.elim_inl]
   rw [e0,dt' (by omega)]
   rfl
  ·by_cases c2:4 < v.2.1.length
   ·refine ⟨false,zh.v _ _ ?_,fun h=>by cases h⟩
    unfold zh.b
    simp only
    rw [r1']
    simp only [Option.bind_some,Sum.elim_inl]
    rw [e0,df' (by omega),dt' (by omega)]
    rfl
   ·refine ⟨decide (((C.length:Nat):Int) ≤ 60),zh.v _ _ ?_,fun _=>⟨by omega,by omega⟩⟩
    unfold zh.b
    simp only
    rw [r1']
    simp only [Option.bind_some,Sum.elim_inl]
    rw [e0,df' (by omega),df' (by omega)]
    rfl
theorem by_v {v:Int} (hv:v.natAbs < 4294967296):xi.V v 1=some (tr (R v 1)):=by
 refine xi.v _ _ ?_
 unfold xi.b
 rw [rrwhole_R (z:=v) (by omega) (by omega),rrwhole_R (z:=1) (by omega) (by omega),Option.bind_some,Option.bind_some]
 rw [show yI.V (((tr (R v 1)).1,((tr (R v 1)).2.1,())),((tr (R v 1)).2.2,())) (((tr (R 1 1)).1,((tr (R 1 1)).2.1,())),((tr (R 1 1)).2.2,()))=_ from rrdiv_R (can1 hv) (can1 (v:=1) (by omega))]
 have e:ofR (v * sg 1 1) (1 * (1:Int).natAbs)=(R v 1,0):=by
  rw [show sg 1 1=1 from rfl,Int.mul_one,show 1 * (1:Int).natAbs=1 from rfl,ofR_one (by omega) (Nat.gcd_one_right _),limR_can (can1 hv)]
 rw [e]
 rfl
theorem islit_v {C:CO} (h:Inv C) {i v:Int} (hi:At C i) (hv:v.natAbs < 4294967296):yG.V C i v=some (isV C i v):=by
 refine yG.v _ _ _ ?_
 unfold yG.b
 rw [hi.d]
 show (bif true then (bif isL C i then (bif true then Option.bind (xi.V v 1) _ else none) else some false) else none)=_
 unfold isV
 cases hl:isL C i
 ·rfl
 ·obtain ⟨z,d,hc,he⟩:=h.lit hi hl
  have he':(rdL (Ty.zero api_Term) C i).2.2.2.2.1=R z d:=he
  rw [by_v hv]
  simp only [cond_true,Option.bind_some,Bool.true_and]
  obtain ⟨b,b1,b2⟩:=krat_v (x:=R z d) (y:=R v 1) (by have:(limbs z.natAbs).length ≤ 64:=hc.2.2.1;show (limbs z.natAbs).length ≤ _;omega) (by have:(limbs d).length ≤ 64:=hc.2.2.2;show (limbs d).length ≤ _;omega)
  rw [he']
  show (Option.bind (yX.V (R z d) (R v 1)) _)=_
  rw [b1,he,rZ_R,rD_R,Option.bind_some]
  congr 1
  rw [Bool.eq_iff_iff,b2,Bool.and_eq_true,decide_eq_true_eq,decide_eq_true_eq]
  constructor
  ·intro e
   have hz:=congrArg rZ e
   have hd:=congrArg rD e
   rw [rZ_R,rZ_R] at hz
   rw [rD_R,rD_R] at hd
   exact ⟨hz,hd⟩
  ·rintro ⟨rfl,rfl⟩
   rfl
theorem of_core {C:CO} (hC:Core C) (hl:C.length ≤ 100) {r:Nat} (hr:r < C.length):zO.V C (r:Int)=some (Sum.inr ((simS C r).1,(atI (simS C r).2 (r:Int),0)))∧At (simS C r).1 (atI (simS C r).2 (r:Int))∧Inv (simS C r).1∧NoN (simS C r).1∧(simS C r).1.length < 300000:=by
 have hd:=simS_done hC hr hl
 refine ⟨?_,hd.2.2.1 r (by omega) (needs_root hr),hd.1,NoN.run hC (needs_closed hC hr) (by omega) (by omega) (r + 1) 0 _ rfl (done0 _ _) .nil,room (by omega) hd.2.2.2.1⟩
 rw [simple_v hC.lb hl]
 unfold simR
 rw [if_neg (by rw [hC.good];simp;omega),Int.toNat_natCast]
theorem csz_of {M:CO} (h:Inv M) (hl:M.length < 300000):CSz M:=by
 have hlb:=(h.core (by omega)).lb
 exact ⟨fun t ht=>⟨Nat.le_trans (hlb.1 t ht).2.2.1 (by omega),Nat.le_trans (hlb.1 t ht).2.2.2 (by omega)⟩,by omega⟩
end
end Go.Proofs.YtlfcdmibknmjeaaGreatDoor.E
end
section
namespace Go.Proofs.YtlfcdmibknmjeaaGreatDoor.E
open Go Go.Proofs.YtlfcdmibknmjeaaGreatDoor.Ev
set_option linter.unusedSimpArgs false
noncomputable section
theorem bindE {α β:Type} {E:Option α} {F:α→Option β} {r:β} (x:α) (h:E=some x) (h2:F x=some r):Option.bind E F=some r:=by rw [h];exact h2
theorem again_v {C:CO} (hL:Limbs C) (v:RA) (hv:Lb v.1.2.1∧Lb v.2.1):yq.V C v=some true:=by
 refine yq.v _ _ ?_
 unfold yq.b
 obtain ⟨g,g1,g2⟩:=large_v C
 rw [g1,wakes_v]
 simp only [Option.bind_some]
 cases g
 ·obtain ⟨h1,h2⟩:=g2 rfl
  simp only [cond_false]
  by_cases h0:C.length=0
  ·rw [h0]
   rfl
  ·rw [show (((C.length:Nat):Int) == 0)=false by rw [beq_eq_false_iff_ne];omega]
   simp only [cond_false]
   by_cases h20:C.length ≤ 20
   ·have hb:CLb C:=⟨fun t ht=>⟨(hL t ht).1,(hL t ht).2,Nat.le_trans (h2 t ht).1 (by omega),Nat.le_trans (h2 t ht).2 (by omega)⟩,by omega⟩
    have hz:CSz C:=⟨fun t ht=>⟨Nat.le_trans (h2 t ht).1 (by omega),Nat.le_trans (h2 t ht).2 (by omega)⟩,by omega⟩
    rw [df' (by omega),rGood_v hb]
    simp only [cond_false,Option.bind_some]
    cases hg:goodC 0 C
    ·rfl
    ·obtain ⟨tb0,t1,t2⟩:=tame_v (C:=C) v (by omega)
     simp only [Bool.not_true,cond_false]
     rw [t1]
     simp only [Option.bind_some]
     cases tb0
     ·rfl
     ·have hv4:=t2 rfl
      simp only [Bool.not_true,cond_false]
      have hC:=core_of hg hb.2
      obtain ⟨k,hk⟩:∃ k:Nat,k + 1=C.length:=⟨C.length - 1,by omega⟩
      have hw:IntKind.wrap .i64 (((C.length:Nat):Int) - 1)=(k:Int):=by rw [wrap64 (by omega) (by omega)];omega
      have hw2:IntKind.wrap .i64 (((C.length:Nat):Int) + 1)=((C.length + 1:Nat):Int):=by rw [wrap64 (by omega) (by omega)];omega
      rw [own_v hz]
      simp only [Option.bind_some]
      rw [hw]
      obtain ⟨r2,hm,hI,hN,hS⟩:=of_core hC (by omega) (r:=k) (by omega)
      have hD1:Core (C ++ [mkT 4 (k:Int) (k:Int) 0 R0]):=hC.snoc (GT_two (by omega) ⟨by omega,by omega⟩ ⟨by omega,by omega⟩) (by omega)
      obtain ⟨r1,x1,x2,_,_⟩:=of_core hD1 (by rw [List.length_append,List.length_singleton];omega) (r:=C.length) (by rw [List.length_append,List.length_singleton];omega)
      obtain ⟨e1,e2⟩:=sim1 hC hk
      rw [e1,e2] at r1 x1
      rw [e1] at x2
      generalize hy:(simS C k).1=y at *
      generalize hmm:atI (simS C k).2 (k:Int)=m at *
      have r1':zO.V (C ++ [((4:Int),((k:Int),((k:Int),((0:Int),(((false,(([]:List Int),())),(([]:List Int),())),())))))]) ((C.length:Nat):Int)=_:=r1
      rw [dt' (by show C.length + 1 ≤ 68719476736;omega),r1']
      simp only [cond_true,Option.bind_some,Sum.elim_inr]
      rw [show ((0:Int) != 0)=false from rfl,df' (c:=(subS y m m).2 < 0) (by have:=x1.1;omega),df' (c:=(subS y m m).2 ≥ (((subS y m m).1.length:Nat):Int)) (by have:=x1.2;omega)]
      simp only [cond_false,Option.bind_some]
      rw [r2]
      simp only [Option.bind_some,Sum.elim_inr]
      rw [show ((0:Int) != 0)=false from rfl,df' (c:=m < 0) (by have:=hm.1;omega),df' (c:=m ≥ ((y.length:Nat):Int)) (by have:=hm.2;omega)]
      simp only [cond_false,Option.bind_some]
      have hlit:isL y m=false→((tk (tI y m)=5∧isL y (ta (tI y m))=true)→isL y (tb (tI y m))=false)→yG.V (subS y m m).1 (subS y m m).2 0=some true:=fun a1 a2=>by
       rw [islit_v x2 x1 (by omega),sub_self hI hN hm a1 a2]
       obtain ⟨o1,o2,o3,o4,o5⟩:=litS_ok hI (canR1 (v:=0) (by omega))
       unfold isV
       rw [o2,o5,rZ_R,rD_R]
       rfl
      obtain ⟨k1,k2⟩:=hI.kids hm
      refine bindE (v,(C,((k:Int),(((C.length:Nat):Int),((subS y m m).1,((subS y m m).2,(y,(m,((@BEq.beq Int _ (tk (tI y m)) 5) && (isL y (ta (tI y m)) && isL y (tb (tI y m)))) || (decide ((((tv (tI y m)).1.2.1.length:Nat):Int) > 30) || decide ((((tv (tI y m)).2.1.length:Nat):Int) > 30))))))))))  ?_ ?_
      ·rw [hm.d]
       simp only [cond_true]
       by_cases c5:tk (tI y m)=5
       ·have q5:(@BEq.beq Int _ (rdL (Ty.zero api_Term) y m).1 5)=true:=by rw [beq_iff_eq];exact c5
        have q5':(@BEq.beq Int _ (tk (tI y m)) 5)=true:=q5
        have kA:decide ((0:Int) ≤ (rdL (Ty.zero api_Term) y m).2.1∧(rdL (Ty.zero api_Term) y m).2.1 < ((y.length:Nat):Int))=true:=(k1 (by omega)).1.d
        have kB:decide ((0:Int) ≤ (rdL (Ty.zero api_Term) y m).2.2.1∧(rdL (Ty.zero api_Term) y m).2.2.1 < ((y.length:Nat):Int))=true:=(k2 (by omega)).1.d
        have qA:(@BEq.beq Int _ (rdL (Ty.zero api_Term) y (rdL (Ty.zero api_Term) y m).2.1).1 1)=isL y (ta (tI y m)):=rfl
        have qB:(@BEq.beq Int _ (rdL (Ty.zero api_Term) y (rdL (Ty.zero api_Term) y m).2.2.1).1 1)=isL y (tb (tI y m)):=rfl
        rw [q5,q5',kA,kB,qA,qB]
        simp only [cond_true,Bool.true_and]
        show _=some (v,(C,((k:Int),(((C.length:Nat):Int),((subS y m m).1,((subS y m m).2,(y,(m,(isL y (ta (tI y m)) && isL y (tb (tI y m))) || (decide ((((rdL (Ty.zero api_Term) y m).2.2.2.2.1.1.2.1.length:Nat):Int) > 30) || decide ((((rdL (Ty.zero api_Term) y m).2.2.2.2.1.2.1.length:Nat):Int) > 30))))))))))
        cases isL y (ta (tI y m)) <;> cases isL y (tb (tI y m)) <;> cases decide ((((rdL (Ty.zero api_Term) y m).2.2.2.2.1.1.2.1.length:Nat):Int) > 30) <;> cases decide ((((rdL (Ty.zero api_Term) y m).2.2.2.2.1.2.1.length:Nat):Int) > 30) <;> rfl
       ·have q5:(@BEq.beq Int _ (rdL (Ty.zero api_Term) y m).1 5)=false:=by rw [beq_eq_false_iff_ne];exact c5
        have q5':(@BEq.beq Int _ (tk (tI y m)) 5)=false:=q5
        rw [q5,q5']
        simp only [cond_false,Bool.false_and,Bool.false_or]
        show _=some (v,(C,((k:Int),(((C.length:Nat):Int),((subS y m m).1,((subS y m m).2,(y,(m,(decide ((((rdL (Ty.zero api_Term) y m).2.2.2.2.1.1.2.1.length:Nat):Int) > 30) || decide ((((rdL (Ty.zero api_Term) y m).2.2.2.2.1.2.1.length:Nat):Int) > 30))))))))))
        cases decide ((((rdL (Ty.zero api_Term) y m).2.2.2.2.1.1.2.1.length:Nat):Int) > 30) <;> cases decide ((((rdL (Ty.zero api_Term) y m).2.2.2.2.1.2.1.length:Nat):Int) > 30) <;> rfl
      ·simp only
       cases hGB:(((@BEq.beq Int _ (tk (tI y m)) 5) && (isL y (ta (tI y m)) && isL y (tb (tI y m)))) || (decide ((((tv (tI y m)).1.2.1.length:Nat):Int) > 30) || decide ((((tv (tI y m)).2.1.length:Nat):Int) > 30)))
       ·rw [Bool.or_eq_false_iff,Bool.or_eq_false_iff,decide_eq_false_iff_not,decide_eq_false_iff_not] at hGB
        obtain ⟨b1,b2,b3⟩:=hGB
        simp only [cond_false]
        refine bindE (Sum.inl (v,(C,((k:Int),((C.length:Nat):Int))))) ?_ ?_
        ·rw [hm.d]
         simp only [cond_true]
         cases hY:isL y m
         ·have hq:(@bne Int _ (rdL (Ty.zero api_Term) y m).1 1)=true:=by
           have:(@BEq.beq Int _ (rdL (Ty.zero api_Term) y m).1 1)=false:=hY
           unfold bne
           rw [this]
           rfl
          rw [hq,hlit hY (fun hh=>by
           rw [hh.2,hh.1] at b1
           simpa using b1)]
          rfl
         ·have hq:(@bne Int _ (rdL (Ty.zero api_Term) y m).1 1)=false:=by
           have:(@BEq.beq Int _ (rdL (Ty.zero api_Term) y m).1 1)=true:=hY
           unfold bne
           rw [this]
           rfl
          rw [hq]
          rfl
        ·simp only [Sum.elim_inl]
         cases hv0:(((v.2.1.length:Nat):Int) == 0)
         ·simp only [cond_false]
          have hbv:CLb [mkT 1 0 0 0 v]:=⟨fun t ht=>by
           rw [List.mem_singleton] at ht
           subst ht
           exact ⟨hv.1,hv.2,Nat.le_trans hv4.1 (by omega),Nat.le_trans hv4.2 (by omega)⟩,by simp⟩
          have hgood:zC.V [((1:Int),((0:Int),((0:Int),((0:Int),(v,())))))]=some (goodC 0 [mkT 1 0 0 0 v]):=rGood_v hbv
          rw [hgood]
          simp only [Option.bind_some]
          cases hgv:goodC 0 [mkT 1 0 0 0 v]
          ·rfl
          ·have hcv:CanR v:=((goodC_GT hgv 0 (by simp)).can rfl).1
           simp only [Bool.not_true,cond_false]
           rw [own_v hz]
           simp only [Option.bind_some]
           have hD:∀ a b:Int,At (C ++ [mkT 1 0 0 0 v]) a→At (C ++ [mkT 1 0 0 0 v]) b→Core ((C ++ [mkT 1 0 0 0 v]) ++ [mkT 5 a b 0 R0]):=fun a b ha hb=>(hC.snoc (GT_lit hcv) (by omega)).snoc (GT_two (by omega) ha hb) (by rw [List.length_append,List.length_singleton];omega)
           have hl2:∀ a b:Int,((C ++ [mkT 1 0 0 0 v]) ++ [mkT 5 a b 0 R0]).length=C.length + 1 + 1:=fun a b=>by rw [List.length_append,List.length_append,List.length_singleton,List.length_singleton]
           have at1:At (C ++ [mkT 1 0 0 0 v]) (k:Int):=⟨by omega,by rw [List.length_append,List.length_singleton];omega⟩
           have at2:At (C ++ [mkT 1 0 0 0 v]) ((C.length:Nat):Int):=⟨by omega,by rw [List.length_append,List.length_singleton];omega⟩
           obtain ⟨p1,p2,p3,_,p5⟩:=of_core (hD _ _ at1 at2) (by rw [hl2];omega) (r:=C.length + 1) (by rw [hl2];omega)
           obtain ⟨q1,_,_,_,_⟩:=of_core (hD _ _ at2 at1) (by rw [hl2];omega) (r:=C.length + 1) (by rw [hl2];omega)
           obtain ⟨X,Y,hXY,s1,s2⟩:=sim2 hC (by omega) hk hcv (a:=(k:Int)) (b:=((C.length:Nat):Int)) (.inl ⟨rfl,rfl⟩)
           obtain ⟨X',Y',hXY',s1',s2'⟩:=sim2 hC (by omega) hk hcv (a:=((C.length:Nat):Int)) (b:=(k:Int)) (.inr ⟨rfl,rfl⟩)
           rw [hy,hmm] at hXY hXY'
           rw [hy] at s1 s2 s1' s2'
           have hX:X=m∧Y=(litS y v).2:=by
            rcases hXY with ⟨_,h1,h2⟩ | ⟨h,_,_⟩
            ·exact ⟨h1,h2⟩
            ·omega
           have hX':Y'=m∧X'=(litS y v).2:=by
            rcases hXY' with ⟨h,_,_⟩ | ⟨_,h1,h2⟩
            ·omega
            ·exact ⟨h1,h2⟩
           obtain ⟨rfl,rfl⟩:=hX
           obtain ⟨rfl,rfl⟩:=hX'
           obtain ⟨⟨o1,o2,o3⟩,o4,o5,o6,o7⟩:=litS_ok hI hcv
           have hsym:mulS (litS y v).1 Y' (litS y v).2=mulS (litS y v).1 (litS y v).2 Y':=mul_sym o4 fun hA=>by
            have em:=o2.tI hm
            have hA':isL y Y'=true:=by unfold isL at hA ⊢;rw [em] at hA;exact hA
            rw [em,o7]
            exact mulR_small (hI.lit hm hA') hcv (by omega) (by omega) hv4.1 hv4.2
           rw [s1,s2] at p1
           rw [s1',s2',← hsym] at q1
           have a1:∀ a b:Int,C ++ [((1:Int),((0:Int),((0:Int),((0:Int),(v,()))))),((5:Int),(a,(b,((0:Int),(((false,(([]:List Int),())),(([]:List Int),())),())))))]=(C ++ [mkT 1 0 0 0 v]) ++ [mkT 5 a b 0 R0]:=fun a b=>by
            rw [List.append_assoc]
            rfl
           rw [hw2,a1,a1,p1,q1,dt' (by show C.length + 2 ≤ 68719476736;omega)]
           simp only [cond_true,Option.bind_some,Sum.elim_inr,BEq.rfl]
           rw [dt' (by show C.length + 2 ≤ 68719476736;omega)]
           simp only [cond_true,Option.bind_some,Sum.elim_inr,BEq.rfl]
           rw [s1] at p3 p5
           obtain ⟨c,c1,c2⟩:=kcore_v (D:=(mulS (litS y v).1 Y' (litS y v).2).1) (csz_of p3 p5)
           have hc':c=true:=c2.2 rfl
           subst hc'
           rw [c1]
           rfl
         ·rfl
       ·rfl
   ·rw [dt' (by omega)]
    rfl
 ·rfl
end
end Go.Proofs.YtlfcdmibknmjeaaGreatDoor.E
end
