import Derived.Test.YtlfcdmibknmjeaaGreatDoorYEvA1
import Derived.WideKeyRuns
import Derived.LoopN
import Derived.Deep.Slices
import Derived.WideShapes
import Derived.Carry
import Derived.OpenShut
import Derived.LaidMore
import Derived.ProofKit
import Derived.Lib.LaidTab
import Derived.FnData
import Derived.IntWalk
namespace Go.Proofs.YtlfcdmibknmjeaaGreatDoor
namespace Ev
open Go Go.RowKit
variable {P:Program} {G:List GV} {E:Entry} {fr hp:List SV} {w:World} {β:Nat→BI} {N:Reg} {r:Unit × List SV × List SV} {a:Act} {o:Oper} {T:Tab}
section
variable {γ:Type}
theorem bindSh_ex:∀ (sh:Sh) (tl:Bool) (v:SV) (vs:List SV) (l:List (Nat × Nat)) (K:List (Nat × Nat)→γ),∃ l',bindSh sh tl v vs l K=K l':=by
 intro sh
 induction sh with
 | own id _ _ _=>intro tl v vs l K;cases v <;> exact ⟨_,rfl⟩
 | ptr id _ _=>intro tl v vs l K;cases v <;> exact ⟨_,rfl⟩
 | mp id _ _=>intro tl v vs l K;cases v <;> exact ⟨_,rfl⟩
 | agg _ c ih=>intro tl v vs l K;cases v <;> first | exact ih _ _ _ _ _ | exact ⟨_,rfl⟩
 | acons a b iha ihb =>
  intro tl v vs l K
  cases vs with
  | nil=>exact ⟨_,rfl⟩
  | cons v vs =>
   obtain ⟨l1,h1⟩:=iha false v [] l (fun l=>bindSh b true .none vs l K)
   obtain ⟨l2,h2⟩:=ihb true .none vs l1 K
   exact ⟨l2,h1.trans h2⟩
 | _=>intro tl v vs l K;exact ⟨_,rfl⟩
theorem sigmaK_ex {l:List (Nat × Nat)} {step:Nat}:∀ (ids:List Nat) (base:Nat) (o:List (Nat × Nat)) (K:List (Nat × Nat)→γ),∃ s,sigmaK l step ids base o K=K s
 | [],_,o,_=>⟨o,rfl⟩
 | s :: ids,base,o,K=>by
  simp only [sigmaK,forceN_eq]
  cases keysR l s with
  | true=>exact sigmaK_ex ids _ _ K
  | false=>exact sigmaK_ex ids _ _ K
end
section
variable {α:Type} {r:α × List SV × List SV}
theorem rhoA_elim {vs:List SV} {k:List (Nat × Nat)→Acc P G α}:∀ (its:List Itm) (l:List (Nat × Nat)),run (rhoA vs its l k) fr hp=some r→∃ l',run (k l') fr hp=some r
 | [],l,hr=>⟨l,hr⟩
 | m :: ms,l,hr=>by
  simp only [rhoA] at hr
  cases hb:m.box with
  | false =>
   rw [hb] at hr
   obtain ⟨l',e⟩:=bindSh_ex m.sh false (nth vs m.i) [] l (fun l=>rhoA vs ms l k)
   simp only [e] at hr
   exact rhoA_elim ms l' hr
  | true =>
   rw [hb] at hr
   simp only [run,if_true] at hr
   obtain ⟨l',e⟩:=bindSh_ex m.sh false (nth hp (lookR l far m.i)) [] l (fun l=>rhoA vs ms l k)
   rw [e] at hr
   exact rhoA_elim ms l' hr
theorem verA_elim {σ:Nat→Nat} {k:List (Nat × Nat)→Acc P G α}:∀ (ids:List Nat) (o:List (Nat × Nat)),run (verA σ ids o k) fr hp=some r→∃ v,run (k v) fr hp=some r
 | [],o,hr=>⟨o,hr⟩
 | s :: ids,o,hr=>by
  simp only [verA,run,if_true] at hr
  split at hr
  ·simp only [forceN_eq] at hr;exact verA_elim ids _ hr
  ·simp only [forceN_eq] at hr;exact verA_elim ids _ hr
  ·exact verA_elim ids _ hr
def Was (hp:List SV) (hpR:List SV) (ρ σ:Nat→Nat) (pins:List Nat) (s:Nat):Prop :=
 nth hpR (σ s) ≠ .none∧((nth hp (σ s)=.none) ∨ (kindB (nth hp (σ s)) ≤ 1∧kindB (nth hpR (σ s))=1∧bver (nth hp (σ s)) < bver (nth hpR (σ s))) ∨ (hasN pins s=true∧σ s=ρ s))
theorem wrsA_elim {hpR:List SV} {ρ σ:Nat→Nat} {pins:List Nat} {hp0:List SV} {k:Acc P G α}:∀ (ids d:List Nat) (hp:List SV),(∀ i,hasN d i=false→nth hp i=nth hp0 i)→(∀ i,hasN d i=true→nth hp i=nth hpR i)→run (wrsA hpR ρ σ pins ids d k) fr hp=some r →
 ∃ hp',(∀ s,hasN ids s=true→Was hp0 hpR ρ σ pins s)∧(∀ i,hasN d i=false→onN σ ids i=false→nth hp' i=nth hp0 i)∧(∀ i,hasN d i=true ∨ onN σ ids i=true→nth hp' i=nth hpR i)∧run k fr hp'=some r
 | [],d,hp,h1,h2,hr=>⟨hp,fun s h=>(by cases h),fun i h _=>h1 i h,fun i h=>(by rcases h with h | h;exact h2 i h;cases h),hr⟩
 | s :: ids,d,hp,h1,h2,hr=>by
  simp only [wrsA] at hr
  cases hd:hasN d (σ s) with
  | true=>rw [hd] at hr;cases hr
  | false =>
   rw [hd] at hr
   simp only [cond,nthK_eq,run,if_true] at hr
   obtain ⟨hc,hr1⟩:=cond_fail hr
   simp only [run,if_true] at hr1
   have hne:nth (put hp (σ s) (nth hpR (σ s))) (σ s) ≠ .none:=by
    intro e;rw [e] at hr1;cases hr1
   have hin:σ s < hp.length:=by have:=nth_in hne;rwa [len_put] at this
   have hr2:run (wrsA hpR ρ σ pins ids (σ s :: d) k) fr (put hp (σ s) (nth hpR (σ s)))=some r:=by
    split at hr1
    ·cases hr1
    ·exact hr1
   rw [nth_put_eq _ _ _ hin] at hne
   have hw:Was hp0 hpR ρ σ pins s:=by
    refine ⟨hne,?_⟩
    have e0:=h1 (σ s) hd
    rw [← e0]
    split at hc
    ·rename_i e;exact .inl e
    ·rename_i v a b c e hb
     split at hc
     ·rename_i v' a' b' c' e' hb'
      simp only [Bool.and_eq_true] at hc
      exact .inr (.inl ⟨by rw [hb];exact Nat.le_refl _,by rw [hb'];rfl,by rw [hb,hb'];exact Nat.le_of_ble_eq_true hc.2⟩)
     ·cases hc
    ·rename_i v hb
     split at hc
     ·rename_i v' a' b' c' e' hb'
      simp only [Bool.and_eq_true] at hc
      exact .inr (.inl ⟨by rw [hb];exact Nat.zero_le _,by rw [hb'];rfl,by rw [hb,hb'];exact Nat.le_of_ble_eq_true hc.2⟩)
     ·cases hc
    ·simp only [Bool.and_eq_true] at hc
     exact .inr (.inr ⟨hc.1,Nat.eq_of_beq_eq_true hc.2⟩)
   obtain ⟨hp',k1,k2,k3,k4⟩:=wrsA_elim (hp0:=hp0) ids (σ s :: d) (put hp (σ s) (nth hpR (σ s))) (fun i hi=>by
    have hne:σ s ≠ i:=fun e=>by rw [hasN_cons.2 (.inl e)] at hi;cases hi
    rw [nth_put_ne _ _ _ _ hne]
    exact h1 i (by cases hh:hasN d i with | false=>rfl | true=>rw [hasN_cons.2 (.inr hh)] at hi;cases hi)) (fun i hi=>by
    by_cases e:σ s=i
    ·subst e;exact nth_put_eq _ _ _ hin
    ·rw [nth_put_ne _ _ _ _ e]
     rcases hasN_cons.1 hi with h | h
     ·exact (e h).elim
     ·exact h2 i h) hr2
   refine ⟨hp',fun t ht=>?_,fun i hi ho=>?_,fun i hi=>?_,k4⟩
   ·rcases hasN_cons.1 ht with rfl | ht
    ·exact hw
    ·exact k1 t ht
   ·simp only [onN,Bool.or_eq_false_iff] at ho
    refine k2 i ?_ ho.2
    cases hh:hasN (σ s :: d) i with
    | false=>rfl
    | true =>
     rcases hasN_cons.1 hh with e | e
     ·rw [e,Nat.beq_refl] at ho;cases ho.1
     ·rw [hi] at e;cases e
   ·refine k3 i ?_
    rcases hi with hi | hi
    ·exact .inl (hasN_cons.2 (.inr hi))
    ·simp only [onN,Bool.or_eq_true] at hi
     rcases hi with hi | hi
     ·exact .inl (hasN_cons.2 (.inl (Nat.eq_of_beq_eq_true hi)))
     ·exact .inr hi
def Tomb (b0 b1:SV):Prop:=kindB b0 ≤ 1∧∃ v,b1=.dead v∧bver b0 < v
def NoRow (b:SV):Prop:=b=.none ∨ ∃ v,b=.dead v
theorem tombA_elim {ρ σ:Nat→Nat} {out:List Nat} {k:Acc P G α}:∀ (ids:List Nat) (hp:List SV),run (tombA ρ σ out ids k) fr hp=some r →
 ∃ hp',(∀ i,nth hp' i=nth hp i ∨ (onN σ out i=false∧Tomb (nth hp i) (nth hp' i)))∧(∀ s,hasN ids s=true→onN σ out (ρ s)=false→NoRow (nth hp (ρ s)) ∨ Tomb (nth hp (ρ s)) (nth hp' (ρ s)))∧run k fr hp'=some r∧(ids=[]→hp'=hp)
 | [],hp,hr=>⟨hp,fun _=>.inl rfl,fun _ h=>(by cases h),hr,fun _=>rfl⟩
 | s :: ids,hp,hr=>by
  simp only [tombA] at hr
  have skip:∀ hr:run (tombA ρ σ out ids k) fr hp=some r,(onN σ out (ρ s)=false→NoRow (nth hp (ρ s)))→∃ hp',(∀ i,nth hp' i=nth hp i ∨ (onN σ out i=false∧Tomb (nth hp i) (nth hp' i)))∧(∀ t,hasN (s :: ids) t=true→onN σ out (ρ t)=false→NoRow (nth hp (ρ t)) ∨ Tomb (nth hp (ρ t)) (nth hp' (ρ t)))∧run k fr hp'=some r∧(s :: ids=[]→hp'=hp):=by
   intro hr h0
   obtain ⟨hp',k1,k2,k3,_⟩:=tombA_elim ids hp hr
   refine ⟨hp',k1,fun t ht ho=>?_,k3,fun h=>(by cases h)⟩
   rcases hasN_cons.1 ht with rfl | ht
   ·exact .inl (h0 ho)
   ·exact k2 t ht ho
  cases ho:onN σ out (ρ s) with
  | true =>
   rw [ho] at hr
   exact skip hr (fun h=>by rw [ho] at h;cases h)
  | false =>
   rw [ho] at hr
   simp only [cond,run,if_true] at hr
   split at hr
   ·rename_i e
    exact skip hr (fun _=>.inl e)
   ·rename_i v e
    exact skip hr (fun _=>.inr ⟨v,e⟩)
   ·rename_i v a b c d e
    simp only [run,if_true] at hr
    obtain ⟨hp',k1,k2,k3,_⟩:=tombA_elim ids _ hr
    have hin:ρ s < hp.length:=nth_in (by rw [e];simp)
    have at_:nth (put hp (ρ s) (.dead (v + 1))) (ρ s)=.dead (v + 1):=nth_put_eq _ _ _ hin
    have t0:Tomb (nth hp (ρ s)) (nth hp' (ρ s)):=by
     refine ⟨by rw [e];exact Nat.le_refl _,?_⟩
     rcases k1 (ρ s) with k | ⟨_,_,v',k,kv⟩
     ·exact ⟨v + 1,by rw [k,at_],by rw [e];exact Nat.lt_succ_self v⟩
     ·rw [at_] at kv
      have kv:v + 1 < v':=kv
      exact ⟨v',k,by rw [e];show v < v';omega⟩
    refine ⟨hp',fun i=>?_,fun t ht ho'=>?_,k3,fun h=>(by cases h)⟩
    ·by_cases ei:ρ s=i
     ·subst ei;exact .inr ⟨ho,t0⟩
     ·have:=k1 i
      rw [nth_put_ne _ _ _ _ ei] at this
      exact this
    ·rcases hasN_cons.1 ht with rfl | ht
     ·exact .inr t0
     ·by_cases ei:ρ s=ρ t
      ·rw [← ei];exact .inr t0
      ·have:=k2 t ht ho'
       rw [nth_put_ne _ _ _ _ ei] at this
       exact this
   ·exact fail_elim hr
end
theorem onN_mem {σ:Nat→Nat}:∀ (ids:List Nat) (i:Nat),onN σ ids i=true→∃ s,hasN ids s=true∧σ s=i
 | [],_,h=>by cases h
 | s :: ids,i,h=>by
  simp only [onN,Bool.or_eq_true] at h
  rcases h with h | h
  ·exact ⟨s,hasN_cons.2 (.inl rfl),Nat.eq_of_beq_eq_true h⟩
  ·obtain ⟨t,k1,k2⟩:=onN_mem ids i h
   exact ⟨t,hasN_cons.2 (.inr k1),k2⟩
theorem mem_onN {σ:Nat→Nat}:∀ (ids:List Nat) (s:Nat),hasN ids s=true→onN σ ids (σ s)=true
 | [],_,h=>by cases h
 | t :: ids,s,h=>by
  simp only [onN,Bool.or_eq_true]
  rcases hasN_cons.1 h with rfl | h
  ·exact .inl (Nat.beq_refl _)
  ·exact .inr (mem_onN ids s h)
theorem Sim.called {tm:Array Value} (h:Sim G E fr hp tm w β N) {hp' hpR hp3:List SV} {w':World} {β' βR:Nat→BI} {N':Reg} {E':Entry} {fr' frR:List SV} {tm':Array Value} {R:Ren} {ρ:Nat→Nat} {hdIds pins outIds:List Nat} {nh:Nat}
 (hw0:E'.w0=w) (hN0:E'.N0=N) (hO:∀ b,E'.O b ↔ ∃ s,hasN hdIds s=true∧blkOf β hp (ρ s)=some b) (hpin:∀ s,hasN pins s=true→E'.pin s=some (β (ρ s),kindB (nth hp (ρ s))))
 (k:Sim G E' fr' hp' tm' w' β' N') (hR:∀ s,hasN pins s=true→R.ρ s=s) (v:View R tm' w' β' N' hp' frR hpR βR outIds nh)
 (hwas:∀ s,hasN outIds s=true→Was hp hpR ρ R.σ pins s) (hin:∀ i,onN R.σ outIds i=true→nth hp3 i=nth hpR i) (hout:∀ i,onN R.σ outIds i=false→nth hp3 i=nth hp i ∨ Tomb (nth hp i) (nth hp3 i))
 (htomb:∀ s,hasN hdIds s=true→onN R.σ outIds (ρ s)=false→NoRow (nth hp (ρ s)) ∨ Tomb (nth hp (ρ s)) (nth hp3 (ρ s))) :
 ∃ βM,Sim G E fr hp3 tm w' βM N'∧Later βR hpR βM hp3∧(∀ i,onN R.σ outIds i=false→nth hp3 i=nth hp i→βM i=β i)∧Later β hp βM hp3∧Ext w N w' N' ∧
  ∀ i,onN R.σ outIds i=false→nth hp3 i=nth hp i→∀ g,blkOf β hp i=some g→w'.heap[g]?=w.heap[g]?:=by
 classical
 let nilB:BI:=⟨0,.slice none 0 0,.unit⟩
 let βM:Nat→BI:=fun i=>if onN R.σ outIds i=true then βR i else if nth hp3 i=nth hp i then β i else nilB
 have b1:∀ i,onN R.σ outIds i=true→βM i=βR i:=fun i hi=>by simp only [βM,if_pos hi]
 have b2:∀ i,onN R.σ outIds i=false→nth hp3 i=nth hp i→βM i=β i:=fun i hi he=>by simp [βM,hi,he]
 have tne:∀ i,Tomb (nth hp i) (nth hp3 i)→nth hp3 i ≠ nth hp i:=fun i ht e=>by
  obtain ⟨_,v,h1,h2⟩:=ht
  rw [← e,h1] at h2
  exact Nat.lt_irrefl _ h2
 have b3:∀ i,onN R.σ outIds i=false→Tomb (nth hp i) (nth hp3 i)→βM i=nilB:=fun i hi ht=>by simp [βM,hi,tne i ht]
 have tblk:∀ i,onN R.σ outIds i=false→Tomb (nth hp i) (nth hp3 i)→blkOf βM hp3 i=none:=fun i hi ht=>by
  obtain ⟨_,v,h1,_⟩:=id ht
  unfold blkOf
  rw [h1];rfl
 have sblk:∀ i,onN R.σ outIds i=false→nth hp3 i=nth hp i→blkOf βM hp3 i=blkOf β hp i:=fun i hi he=>by unfold blkOf;rw [b2 i hi he,he]
 have oblk:∀ i,onN R.σ outIds i=true→blkOf βM hp3 i=blkOf βR hpR i:=fun i hi=>by unfold blkOf;rw [b1 i hi,hin i hi]
 -- pinned boxes
 have pinned:∀ i,onN R.σ outIds i=true→kindB (nth hp i) ≥ 2→βM i=β i∧kindB (nth hp3 i)=kindB (nth hp i):=by
  intro i hi hk
  obtain ⟨s,hs,rfl⟩:=onN_mem _ _ hi
  obtain ⟨_,w1 | ⟨w1,_⟩ | ⟨w1,w2⟩⟩:=hwas s hs
  ·rw [w1] at hk;simp [kindB] at hk
  ·omega
  ·obtain ⟨p1,p2,p3⟩:=k.pin s _ (hpin s w1)
   obtain ⟨_,_,r2,r3⟩:=v.row s hs
   rw [hR s w1] at r2 r3
   simp only at p2 p3
   rw [← w2] at p2 p3
   have k3:kindB (nth hp (R.σ s))=2 ∨ kindB (nth hp (R.σ s))=3:=by
    have:kindB (nth hp (R.σ s)) ≤ 3:=by cases nth hp (R.σ s) <;> simp [kindB]
    omega
   rw [hin _ hi,b1 _ hi]
   rcases k3 with e | e
   ·obtain ⟨kt,vt,l,hm⟩:=kind_mp (p2.trans e)
    obtain ⟨e1,e2⟩:=r3 kt vt l hm
    exact ⟨e1.trans p3,by rw [e];exact e2⟩
   ·obtain ⟨e1,e2⟩:=r2 (kind_3 (p2.trans e))
    exact ⟨e1.trans p3,by rw [e];exact kind_cell e2⟩
 have hL:Later β hp βM hp3:=by
  intro i hi
  cases ho:onN R.σ outIds i with
  | true =>
   obtain ⟨s,hs,e⟩:=onN_mem _ _ ho
   obtain ⟨w0,w1⟩:=hwas s hs
   rw [e] at w0 w1
   refine ⟨by rw [hin i ho];exact w0,?_⟩
   rcases w1 with w1 | ⟨_,_,w1⟩ | ⟨w1,w2⟩
   ·exact (hi w1).elim
   ·exact .inl (by rw [hin i ho];exact w1)
   ·have hk:kindB (nth hp i) ≥ 2:=by
     have:=(k.pin s _ (hpin s w1)).1
     rw [← w2] at this
     exact this
    obtain ⟨e1,e2⟩:=pinned i ho hk
    have flat:∀ b:SV,kindB b ≥ 2→bver b=0∧∀ bt p,inBox bt b p=pathOff bt p:=by
     intro b hb
     cases b with
     | none=>simp [kindB] at hb
     | row a b c d e=>simp [kindB] at hb
     | dead a=>simp [kindB] at hb
     | _=>exact ⟨rfl,fun _ _=>rfl⟩
    obtain ⟨f1,f2⟩:=flat _ hk
    obtain ⟨f3,f4⟩:=flat (nth hp3 i) (by rw [e2];exact hk)
    exact .inr ⟨by rw [f1,f3],e1,fun p=>by rw [f2,f4],e2⟩
  | false =>
   rcases hout i ho with e | ht
   ·exact ⟨by rw [e];exact hi,.inr ⟨by rw [e],b2 i ho e,fun p=>by rw [e],by rw [e]⟩⟩
   ·obtain ⟨_,v,h1,h2⟩:=ht
    exact ⟨by rw [h1];simp,.inl (by rw [h1];exact h2)⟩
 have hL2:Later βR hpR βM hp3:=by
  intro i hi
  have ho:onN R.σ outIds i=true:=by
   cases ho:onN R.σ outIds i with
   | true=>rfl
   | false=>exact (hi (v.dn i fun s hs e=>by rw [← e,mem_onN _ _ hs] at ho;cases ho)).elim
  exact ⟨by rw [hin i ho];exact hi,.inr ⟨by rw [hin i ho],b1 i ho,fun p=>by rw [hin i ho],by rw [hin i ho]⟩⟩
 have hE:Ext w N w' N':=by have:=k.keep;rw [hw0,hN0] at this;exact this
 have hsz:w.heap.size ≤ w'.heap.size:=by have:=k.size;rw [hw0] at this;exact this
 have notO:∀ i b,onN R.σ outIds i=false→nth hp3 i=nth hp i→blkOf β hp i=some b→¬ E'.O b:=by
  intro i b hi he hb ho
  obtain ⟨s,hs,hsb⟩:=(hO b).1 ho
  have e:=h.apart _ _ _ hb hsb
  subst e
  rcases htomb s hs hi with (k | ⟨_,k⟩) | k
  ·unfold blkOf at hb;rw [k] at hb;cases hb
  ·unfold blkOf at hb;rw [k] at hb;cases hb
  ·exact tne _ k he
 have inblk:∀ i b,onN R.σ outIds i=true→blkOf βM hp3 i=some b→b < w'.heap.size∧(w.heap.size ≤ b ∨ E'.O b):=by
  intro i b hi hb
  rw [oblk i hi] at hb
  obtain ⟨s,_,_,hsb⟩:=v.blk i b hb
  have:=k.bnd _ _ hsb
  rw [hw0] at this
  exact this
 have cross:∀ i j b,onN R.σ outIds i=true→onN R.σ outIds j=false→blkOf βM hp3 i=some b→blkOf βM hp3 j=some b→False:=by
  intro i j b hi hj hb hb'
  rcases hout j hj with e | ht
  ·rw [sblk j hj e] at hb'
   rcases (inblk i b hi hb).2 with h1 | h1
   ·have:=(h.bnd _ _ hb').1;omega
   ·exact notO j b hj e hb' h1
  ·rw [tblk j hj ht] at hb';cases hb'
 have Oin:∀ b,E'.O b→E.w0.heap.size ≤ b ∨ E.O b:=fun b hb=>by
  obtain ⟨s,_,hsb⟩:=(hO b).1 hb
  exact (h.bnd _ _ hsb).2
 refine ⟨βM,⟨h.len,fun i=>VR.later hL hE (h.slot i),fun i=>?_,fun i j b hi hj=>?_,fun i b hi=>?_,?_,?_,?_,Nat.le_trans h.size hsz,fun b hb hOb=>?_,h.keep.trans hE,fun b o ho=>?_,k.ok,k.glob,fun i x hx=>?_⟩,hL2,b2,hL,hE,fun i ho e g hg=>by
  have:=k.frame g (by rw [hw0];exact (h.bnd _ _ hg).1) (notO i g ho e hg)
  rw [hw0] at this
  exact this⟩
 ·cases ho:onN R.σ outIds i with
  | true =>
   rw [hin i ho]
   exact BR.later hL2 (Ext.refl _ _) (b1 i ho) (v.box i) (fun g _=>⟨rfl,fun _ h=>h⟩)
  | false =>
   rcases hout i ho with e | ht
   ·rw [e]
    refine BR.later hL hE (b2 i ho e) (h.box i) (fun g hg=>?_)
    have hg':blkOf β hp i=some g:=hg
    have hlt:=(h.bnd _ _ hg').1
    have hno:=notO i g ho e hg'
    refine ⟨?_,fun o hN'=>?_⟩
    ·have:=k.frame g (by rw [hw0];exact hlt) hno
     rw [hw0] at this
     exact this
    ·have:=k.new g o hN'
     rw [hN0,hw0] at this
     rcases this with h1 | h1 | h1
     ·exact h1
     ·exact (hno h1).elim
     ·omega
   ·obtain ⟨_,vv,h1,_⟩:=ht
    rw [h1]
    exact True.intro
 ·cases hi':onN R.σ outIds i <;> cases hj':onN R.σ outIds j
  ·rcases hout i hi' with e | ht
   ·rcases hout j hj' with e' | ht'
    ·rw [sblk i hi' e] at hi;rw [sblk j hj' e'] at hj
     exact h.apart _ _ _ hi hj
    ·rw [tblk j hj' ht'] at hj;cases hj
   ·rw [tblk i hi' ht] at hi;cases hi
  ·exact (cross j i b hj' hi' hj hi).elim
  ·exact (cross i j b hi' hj' hi hj).elim
  ·rw [oblk i hi'] at hi;rw [oblk j hj'] at hj
   exact v.apart k i j b hi hj
 ·cases hi':onN R.σ outIds i with
  | true =>
   obtain ⟨h1,h2⟩:=inblk i b hi' hi
   refine ⟨h1,?_⟩
   rcases h2 with h2 | h2
   ·exact .inl (Nat.le_trans h.size h2)
   ·exact Oin b h2
  | false =>
   rcases hout i hi' with e | ht
   ·rw [sblk i hi' e] at hi
    exact ⟨Nat.lt_of_lt_of_le (h.bnd _ _ hi).1 hsz,(h.bnd _ _ hi).2⟩
   ·rw [tblk i hi' ht] at hi;cases hi
 ·rw [k.os,hw0];exact h.os
 ·rw [k.tape,hw0];exact h.tape
 ·rw [k.output,hw0];exact h.output
 ·have:=k.frame b (by rw [hw0];exact Nat.lt_of_lt_of_le hb h.size) (fun ho=>by
   rcases Oin b ho with h1 | h1
   ·omega
   ·exact hOb h1)
  rw [this,hw0]
  exact h.frame b hb hOb
 ·have:=k.new b o ho
  rw [hN0,hw0] at this
  rcases this with h1 | h1 | h1
  ·exact h.new b o h1
  ·rcases Oin b h1 with h2 | h2
   ·exact .inr (.inr h2)
   ·exact .inr (.inl h2)
  ·exact .inr (.inr (Nat.le_trans h.size h1))
 ·obtain ⟨h1,h2,h3⟩:=h.pin i x hx
  cases ho:onN R.σ outIds i with
  | true =>
   obtain ⟨e1,e2⟩:=pinned i ho (by rw [h2];exact h1)
   exact ⟨h1,e2.trans h2,e1.trans h3⟩
  | false =>
   rcases hout i ho with e | ht
   ·exact ⟨h1,by rw [e];exact h2,by rw [b2 i ho e];exact h3⟩
   ·obtain ⟨h4,_⟩:=ht
    omega
section
variable {ρ:Nat→Nat}
theorem pins_C:∀ (sh:Sh) (x:Tup sh.tys) (t:Ty) (tl:Bool) (cs:List Value),HC ρ β hp w N sh x t tl cs→∀ (l:List Nat) (i:Nat),hasN (shPins sh l) i=true→hasN l i=true ∨ kindB (nth hp (ρ i))=2:=by
 intro sh
 induction sh with
 | mp id kt vt =>
  intro x t tl cs h l i hi
  cases tl with
  | true=>exact (h:False).elim
  | false =>
   obtain ⟨_,c,_,hm,_⟩:=h
   rcases hasN_cons.1 hi with rfl | hi
   ·exact .inr (by rw [hm];rfl)
   ·exact .inl hi
 | agg t' c ih =>
  intro x t tl cs h l i hi
  cases tl with
  | true=>exact (h:False).elim
  | false=>exact ih x t true cs h.2.2 l i hi
 | acons a b iha ihb =>
  intro x t tl cs h l i hi
  cases tl with
  | false=>exact (h:False).elim
  | true =>
   obtain ⟨ta,tb,c1,c2,_,_,h1,h2⟩:=h
   rcases iha _ _ _ _ h1 _ i hi with k | k
   ·exact ihb _ _ _ _ h2 l i k
   ·exact .inr k
 | _=>intro x t tl cs h l i hi;exact .inl hi
theorem pins_V (sh:Sh) (x:Tup sh.tys) (u:Value) (h:HV ρ β hp w N sh x u) (l:List Nat) (i:Nat) (hi:hasN (shPins sh l) i=true):hasN l i=true ∨ kindB (nth hp (ρ i))=2:=by
 cases sh with
 | agg t c =>
  obtain ⟨cs,_,hc⟩:=(h:∃ cs,u=.agg cs.toArray∧HC ρ β hp w N (.agg t c) x t false cs)
  exact pins_C (.agg t c) x t false cs hc l i hi
 | mp id kt vt =>
  rcases hasN_cons.1 hi with rfl | hi
  ·exact .inr (by rw [(h:HL ρ β hp w N (.mp id kt vt) x u).1];rfl)
  ·exact .inl hi
 | acons a b=>exact (h:False).elim
 | _=>exact .inl hi
theorem pins_S {tv:Array Value}:∀ (sg:Sig) (x:Tup (sigTys sg)),SigH ρ β hp w N tv sg x→∀ i,hasN (sigPins sg) i=true→kindB (nth hp (ρ i))=2 ∨ kindB (nth hp (ρ i))=3
 | [],_,_,_,h=>by cases h
 | ⟨b,j,sh⟩ :: l,x,h,i,hi=>by
  obtain ⟨h1,h2⟩:=h
  cases b with
  | false =>
   rcases pins_V sh _ _ h1 _ i hi with k | k
   ·exact pins_S l _ h2 i k
   ·exact .inl k
  | true =>
   obtain ⟨hc,cs,e,_,h3⟩:=(h1:IsCell (nth hp (ρ j))∧∃ cs e,w.heap[(β (ρ j)).blk]?=some (.cells cs.toArray e (0,0))∧HC ρ β hp w N sh (fstT sh.tys x) (β (ρ j)).bt false cs)
   rcases hasN_cons.1 hi with rfl | hi
   ·exact .inr (kind_cell hc)
   ·rcases pins_C sh _ _ _ _ h3 _ i hi with k | k
    ·exact pins_S l _ h2 i k
    ·exact .inl k
end
theorem rdsA_elim {α:Type} {r:α × List SV × List SV} (h:Sim G E fr hp a.tmps w β N):∀ (os:List Operand) (k:List SV→Acc P G α),run (rdsA os k) fr hp=some r →
 ∃ vs,vs.length=os.length∧(∀ i,VR β hp w N (nth vs i) ((os.map a.eval).toArray.getD i undef))∧run (k vs) fr hp=some r
 | [],k,hr=>⟨[],rfl,fun i=>True.intro,hr⟩
 | o :: os,k,hr=>by
  obtain ⟨v,hv,hr⟩:=rdO_elim h hr
  obtain ⟨vs,h1,h2,hr⟩:=rdsA_elim h os _ hr
  refine ⟨v :: vs,by simp [h1],fun i=>?_,hr⟩
  cases i with
  | zero=>exact hv
  | succ i =>
   have:=h2 i
   simp only [List.map_cons,Array.getD_eq_getD_getElem?,List.getElem?_toArray,List.getElem?_cons_succ] at this ⊢
   exact this
theorem fnA_elim {α:Type} {r:α × List SV × List SV} {n:Nat} {vs:List SV} {k:Kn P G→Acc P G α}:∀ (L:List (Kn P G)),run (fnA vs L n k) fr hp=some r→∃ e:Kn P G,e.id=n∧run (k e) fr hp=some r
 | [],hr=>by simp [fnA,run] at hr
 | e :: L,hr=>by
  unfold fnA at hr
  cases he:(Nat.beq e.id n && fitArgs vs e.hd) with
  | true =>
   rw [he] at hr
   simp only [Bool.and_eq_true] at he
   exact ⟨e,Nat.eq_of_beq_eq_true he.1,hr⟩
  | false=>rw [he] at hr;exact fnA_elim L hr
structure Quiet (β:Nat→BI) (hp:List SV) (w:World) (N:Reg) (β':Nat→BI) (hp':List SV) (w':World) (N':Reg) (svs:List SV):Prop where
 os:w'.os=w.os
 tape:w'.tape=w.tape
 output:w'.output=w.output
 size:w.heap.size ≤ w'.heap.size
 block:∀ b,b < w.heap.size→w'.heap[b]?=w.heap[b]?
 sub:∀ b o,N b o→N' b o
 box:∀ i,(β' i=β i∧(nth hp' i=nth hp i ∨ ∃ v sh e t xs,nth hp i=.row v sh e t xs∧nth hp' i=.row v true e t xs)) ∨
  ((nth hp i=.none ∨ (kindB (nth hp i) ≤ 1∧bver (nth hp i) < bver (nth hp' i)))∧∃ v e t xs,nth hp' i=.row v false e t xs∧t.flat=true∧∀ g,(β' i).val.ownBlock=some g→w.heap.size ≤ g)
 slot:∀ i,FlatS (nth svs i)
theorem quietH_pins:∀ (sg:Sig),quietH sg=true→sigPins sg=[]∧∀ d,sigIds sg d=d
 | [],_=>⟨rfl,fun _=>rfl⟩
 | ⟨b,i,sh⟩ :: l,h=>by
  simp only [quietH,Bool.and_eq_true,Bool.not_eq_true'] at h
  obtain ⟨⟨hb,hs⟩,hl⟩:=h
  subst hb
  obtain ⟨h1,h2⟩:=quietH_pins l hl
  cases sh with
  | imm t=>exact ⟨h1,h2⟩
  | fn f=>exact ⟨h1,h2⟩
  | _=>cases hs
theorem quietOs_mem:∀ (l:List Sig),quietOs l=true→∀ s ∈ l,quietO s=true
 | [],_,_,h=>by cases h
 | t :: l,h,s,hs=>by
  simp only [quietOs,Bool.and_eq_true] at h
  rcases List.mem_cons.1 hs with rfl | hs
  ·exact h.1
  ·exact quietOs_mem l h.2 s hs
theorem loanOs_mem {K:List IntKind}:∀ (l:List Sig),loanOs K l=true→∀ s ∈ l,loanO K s=true
 | [],_,_,h=>by cases h
 | t :: l,h,s,hs=>by
  simp only [loanOs,Bool.and_eq_true] at h
  rcases List.mem_cons.1 hs with rfl | hs
  ·exact h.1
  ·exact loanOs_mem l h.2 s hs
structure Lent (K:List IntKind) (β:Nat→BI) (hp:List SV) (w:World) (N:Reg) (β':Nat→BI) (hp':List SV) (w':World) (N':Reg):Prop where
 ext:Ext w N w' N'
 later:Later β hp β' hp'
 box:∀ i,OkV K (nth hp' i) ∨ NoRow (nth hp' i) ∨ (β' i=β i∧(nth hp' i=nth hp i ∨ ∃ v sh e t xs,nth hp i=.row v sh e t xs∧nth hp' i=.row v true e t xs)∧∀ g,blkOf β hp i=some g→w'.heap[g]?=w.heap[g]?)
theorem callA_elim {nt nh base:Nat} {e:Kn P G} {vs:List SV} {us0:List Value} {tm:Array Value} (h:Sim G E fr hp tm w β N) (hl:vs.length=us0.length) (hvs:∀ i,VR β hp w N (nth vs i) (us0.toArray.getD i undef)) {k:List SV→U P G} (hr:run (callA nt nh base e vs k) fr hp=some r) :
 Calls P e.id us0.toArray w fun e' w'=>∃ us svs hp' β' N',e'=.returned (retVal us)∧svs.length=us.length∧Sim G E fr hp' tm w' β' N'∧(∀ i,VR β' hp' w' N' (nth svs i) (us.toArray.getD i undef))∧run (k svs) fr hp'=some r∧(quietH e.hd=true→quietOs e.outs=true→Quiet β hp w N β' hp' w' N' svs) ∧
  ∀ K,loanOs K e.outs=true→(∀ i,OkV K (nth svs i))∧Lent K β hp w N β' hp' w' N':=by
 unfold callA at hr
 obtain ⟨hc,hr⟩:=cond_fail hr
 have hn:vs.length=e.n:=Nat.eq_of_beq_eq_true hc
 obtain ⟨l,hr⟩:=rhoA_elim _ _ hr
 obtain ⟨hok,hr⟩:=cond_fail hr
 obtain ⟨hp1,N1,x,g,hx,hr⟩:=capG_elim (R:=⟨lookR l far,fun i=>i,fun _=>0⟩) e.hd [] [] _ hp N h hvs hok hr
 obtain ⟨hw,hr⟩:=ownA_elim _ hr
 simp only [run] at hr
 cases hy:e.f x with
 | none=>rw [hy] at hr;cases hr
 | some y =>
  rw [hy] at hr
  simp only [Option.bind_some] at hr
  obtain ⟨out,y',hout,hsel,hsel2⟩:=elimS_ex e.outs y
  rw [hsel] at hr
  obtain ⟨hsub,hr⟩:=cond_fail hr
  obtain ⟨s,hs⟩:=sigmaK_ex (γ:=U P G) (l:=l) (step:=nt) (sigIds out []) base [] (fun s=>verA (lookR s far) (sigIds out []) [] fun v =>
   cond (sigOk ⟨fun i=>i,lookR s far,lookV v⟩ nh out [] []) (resK (lookR s far) (lookV v) out y' (List.replicate e.m .none) (List.replicate nh .none) fun frR hpR =>
    wrsA hpR (lookR l far) (lookR s far) (sigPins e.hd) (sigIds out []) [] (tombA (lookR l far) (lookR s far) (sigIds out []) (sigIds e.hd []) (k frR))) .fail)
  rw [hs] at hr
  obtain ⟨vv,hr⟩:=verA_elim _ _ hr
  obtain ⟨hok2,hr⟩:=cond_fail hr
  -- in
  obtain ⟨frc,hpc,βc,vc,hz⟩:=resG (R:=⟨lookR l far,fun i=>i,fun _=>0⟩) (nh:=e.nh) g.sim e.hd x (List.replicate e.n .none) (List.replicate e.nh .none) β [] [] (fun fr hp=>some (fr,hp)) _ (View.empty (nf:=e.n) (by simp [← hl,hn])) hx hok hw rfl
  let E':Entry:=⟨w,N1,fun b=>∃ t,hasN (sigIds e.hd []) t=true∧blkOf β hp1 (lookR l far t)=some b,fun i=>if hasN (sigPins e.hd) i=true then some (β (lookR l far i),kindB (nth hp1 (lookR l far i))) else none⟩
  have sim':Sim G E' frc hpc us0.toArray w βc N1:=by
   refine ⟨vc.lf.symm,vc.slot,vc.box,vc.apart g.sim,fun i b hi=>?_,rfl,rfl,rfl,Nat.le_refl _,fun _ _ _=>rfl,Ext.refl _ _,fun _ _ h=>.inl h,g.sim.ok,g.sim.glob,fun i b hi=>?_⟩
   ·obtain ⟨t,t1,t2,t3⟩:=vc.blk i b hi
    exact ⟨(g.sim.bnd _ _ t3).1,.inr ⟨t,t1,t3⟩⟩
   ·have hi:(if hasN (sigPins e.hd) i=true then some (β (lookR l far i),kindB (nth hp1 (lookR l far i))) else none)=some b:=hi
    split at hi
    ·rename_i hip
     cases hi
     obtain ⟨_,_,r2,r3⟩:=vc.row i (pins_ids _ _ hip _)
     have r2:IsCell (nth hp1 (lookR l far i))→βc i=β (lookR l far i)∧IsCell (nth hpc i):=r2
     have r3:∀ kt vt m,nth hp1 (lookR l far i)=.mp kt vt m→βc i=β (lookR l far i)∧kindB (nth hpc i)=2:=r3
     rcases pins_S e.hd x hx i hip with hk | hk
     ·obtain ⟨kt,vt,m,hm⟩:=kind_mp hk
      obtain ⟨e1,e2⟩:=r3 _ _ _ hm
      exact ⟨by show kindB (nth hp1 (lookR l far i)) ≥ 2;rw [hk];exact Nat.le_refl _,by rw [e2];exact hk.symm,e1⟩
     ·obtain ⟨e1,e2⟩:=r2 (kind_3 hk)
      exact ⟨by show kindB (nth hp1 (lookR l far i)) ≥ 2;rw [hk];decide,by rw [kind_cell e2];exact hk.symm,e1⟩
    ·cases hi
  obtain ⟨hcl,hcall⟩:=e.holds
  refine (hcall E' w N1 βc frc hpc us0 x y hy (by rw [← hl,hn]) (fun i b hi=>?_) hz.symm sim').mono fun e' w' he'=>?_
  ·have hi:(if hasN (sigPins e.hd) i=true then some (β (lookR l far i),kindB (nth hp1 (lookR l far i))) else none)=some b:=hi
   split at hi
   ·assumption
   ·cases hi
  obtain ⟨us,fr',hp',β',N',rfl,hul,ks,kxw⟩:=he'
  rw [hsel2] at kxw
  obtain ⟨ρ2,nh2,k0,kid,kx,kw⟩:=kxw
  -- out
  obtain ⟨frR,hpR,βR,vR,hz2⟩:=resG (R:=⟨ρ2,lookR s far,lookV vv⟩) (nh:=nh) ks out y' (List.replicate e.m .none) (List.replicate nh .none) β' [] [] (fun a b=>(a,b)) _
   (View.empty (nf:=e.m) (by simp [hul])) kx (sigOk_two out [] [] k0 hok2) kw rfl
  have hz3:=resK_nat (σ:=lookR s far) (ν:=lookV vv) (fun p:List SV × List SV=>wrsA p.2 (lookR l far) (lookR s far) (sigPins e.hd) (sigIds out []) [] (tombA (lookR l far) (lookR s far) (sigIds out []) (sigIds e.hd []) (k p.1))) out y' (List.replicate e.m .none) (List.replicate nh .none) (fun a b=>(a,b))
  have hz2:(frR,hpR)=resK (lookR s far) (lookV vv) out y' (List.replicate e.m .none) (List.replicate nh .none) (fun a b=>(a,b)):=hz2
  rw [← hz2] at hz3
  have hr:run (wrsA hpR (lookR l far) (lookR s far) (sigPins e.hd) (sigIds out []) [] (tombA (lookR l far) (lookR s far) (sigIds out []) (sigIds e.hd []) (k frR))) fr hp1=some r:=by
   rw [← hr];exact congrArg (fun m=>run m fr hp1) hz3
  obtain ⟨hp2,w1,w2,w3,hr⟩:=wrsA_elim (hp0:=hp1) _ [] hp1 (fun _ _=>rfl) (fun _ h=>by cases h) hr
  obtain ⟨hp3,t1,t2,hr,t3⟩:=tombA_elim _ _ hr
  obtain ⟨βM,hM,hLM,hbM,hLL,hEE,hfr⟩:=Sim.called g.sim (E':=E') (ρ:=lookR l far) (hdIds:=sigIds e.hd []) (pins:=sigPins e.hd) rfl rfl (fun b=>Iff.rfl) (fun i hi=>by
   show (if hasN (sigPins e.hd) i=true then some (β (lookR l far i),kindB (nth hp1 (lookR l far i))) else none)=_
   rw [if_pos hi]) ks (fun i hi=>kid i (subN_has _ _ hsub i hi)) vR w1 (hp3:=hp3) (fun i hi=>by
    rcases t1 i with k | ⟨k,_⟩
    ·rw [k];exact w3 i (.inr hi)
    ·rw [show onN (lookR s far) (sigIds out []) i=true from hi] at k;cases k) (fun i hi=>by
    have e2:=w2 i rfl hi
    rcases t1 i with k | ⟨_,k⟩
    ·rw [k,e2];exact .inl rfl
    ·rw [e2] at k;exact .inr k) (fun t ht hi=>by
    have e2:=w2 _ rfl hi
    have:=t2 t ht hi
    rw [e2] at this
    exact this)
  refine ⟨us,frR,hp3,βM,N',rfl,by have:=vR.lf;simpa using this,hM,fun i=>VR.later hLM (Ext.refl _ _) (vR.slot i),hr,fun q1 q2=>?_,fun K hK=>?_⟩
  rotate_left
  ·have hq:=loanOs_mem e.outs hK out hout
   have hok:(∀ i,OkV K (nth frR i))∧∀ i,OkV K (nth hpR i):=by
    have:=resK_ok (σ:=lookR s far) (ν:=lookV vv) (fun p:List SV × List SV=>(∀ i,OkV K (nth p.1 i))∧∀ i,OkV K (nth p.2 i)) out hq y' (List.replicate e.m .none) (List.replicate nh .none) (fun i=>by rw [nth_none];exact .none) (fun i=>by rw [nth_none];exact .none) (fun a b=>(a,b)) fun _ _ a b=>⟨a,b⟩
    rw [← hz2] at this
    exact this
   refine ⟨hok.1,g.ext.trans hEE,g.later.trans hLL,fun i=>?_⟩
   cases ho:onN (lookR s far) (sigIds out []) i with
   | true =>
    left
    rcases t1 i with k | ⟨k,_⟩
    ·rw [k,w3 i (.inr ho)];exact hok.2 i
    ·rw [show onN (lookR s far) (sigIds out []) i=true from ho] at k;cases k
   | false =>
    right
    have e2:=w2 i rfl ho
    rcases t1 i with k | ⟨_,_,v,k,_⟩
    ·have e3:nth hp3 i=nth hp1 i:=k.trans e2
     refine .inr ⟨hbM i ho e3,?_,fun g' hg'=>hfr i ho e3 g' (by rw [g.shd.blk i];exact hg')⟩
     rw [e3]
     exact g.shd i
    ·exact .inl (.inr ⟨v,k⟩)
  obtain ⟨p1,p2⟩:=quietH_pins e.hd q1
  have hq:=quietOs_mem e.outs q2 out hout
  obtain ⟨f1,f2⟩:=resK_flat (σ:=lookR s far) (ν:=lookV vv) out hq y' (List.replicate e.m .none) (List.replicate nh .none) (fun i=>by rw [nth_none];exact True.intro) (fun i=>by rw [nth_none];exact True.intro)
  rw [← hz2] at f1 f2
  have noO:∀ b,¬ E'.O b:=by
   rintro b ⟨t,ht,_⟩
   rw [p2] at ht;cases ht
  have kb:∀ i b,blkOf βR hpR i=some b→w.heap.size ≤ b:=fun i b hb=>by
   obtain ⟨t,_,_,h3⟩:=vR.blk i b hb
   rcases (ks.bnd _ _ h3).2 with h | h
   ·exact h
   ·exact (noO b h).elim
  have in3:∀ i,onN (lookR s far) (sigIds out []) i=true→nth hp3 i=nth hpR i∧βM i=βR i:=fun i hi=>by
   have e3:nth hp3 i=nth hpR i:=by
    rcases t1 i with k | ⟨k,_⟩
    ·rw [k];exact w3 i (.inr hi)
    ·rw [hi] at k;cases k
   refine ⟨e3,?_⟩
   obtain ⟨t,ht,e⟩:=onN_mem _ _ hi
   have hne:=(w1 t ht).1
   rw [e] at hne
   obtain ⟨_,k⟩:=hLM i hne
   have hb2:=f2 i
   cases hR:nth hpR i with
   | none=>exact (hne hR).elim
   | row a b c d e =>
    rcases k with k | ⟨_,k,_⟩
    ·rw [e3] at k;exact (Nat.lt_irrefl _ k).elim
    ·exact k
   | _=>rw [hR] at hb2;exact (hb2:False).elim
  refine ⟨ks.os,ks.tape,ks.output,ks.size,fun b hb=>ks.frame b hb (noO b),fun b o hb=>(ks.keep b o ((g.ext b o hb).1)).1,fun i=>?_,f1⟩
  cases ho:onN (lookR s far) (sigIds out []) i with
  | true =>
   obtain ⟨e3,eb⟩:=in3 i ho
   obtain ⟨t,ht,e⟩:=onN_mem _ _ ho
   obtain ⟨hne,hwas⟩:=w1 t ht
   rw [e] at hne hwas
   have sh1:nth hp i=.none ∨ nth hp1 i ≠ .none:=by
    rcases g.shd i with k | ⟨v,sh,e,t,xs,k1,k2⟩
    ·rw [k];exact Classical.em _
    ·exact .inr (by rw [k2];simp)
   refine .inr ⟨?_,?_⟩
   ·rcases hwas with k | ⟨k1,k2,k3⟩ | ⟨k,_⟩
    ·rcases g.shd i with j | ⟨v,sh,e,t,xs,j1,j2⟩
     ·exact .inl (j ▸ k)
     ·rw [j2] at k;cases k
    ·rcases g.shd i with j | ⟨v,sh,e,t,xs,j1,j2⟩
     ·rw [j] at k1 k3;rw [e3];exact .inr ⟨k1,k3⟩
     ·rw [j2] at k3;rw [e3,j1];exact .inr ⟨Nat.le_refl _,k3⟩
    ·rw [p1] at k;cases k
   ·have hb2:=f2 i
    cases hR:nth hpR i with
    | none=>exact (hne hR).elim
    | row v sh e t xs =>
     rw [hR] at hb2
     obtain ⟨rfl,hf⟩:=(hb2:sh=false∧t.flat=true)
     refine ⟨v,e,t,xs,by rw [e3,hR],hf,fun g' hg'=>kb i g' ?_⟩
     unfold blkOf
     rw [hR,← hg',eb];rfl
    | _=>rw [hR] at hb2;exact (hb2:False).elim
  | false =>
   have e2:=w2 i rfl ho
   have notomb:nth hp3 i=nth hp1 i:=by rw [t3 (p2 []),e2]
   refine .inl ⟨hbM i ho notomb,?_⟩
   ·rw [notomb]
    rcases g.shd i with k | ⟨v,sh,e,t,xs,k1,k2⟩
    ·exact .inl k
    ·exact .inr ⟨v,sh,e,t,xs,k1,k2⟩
theorem flagsA_elim {α:Type} {r:α × List SV × List SV} {k:List (Nat × Bool)→Acc P G α}:∀ (l:List Nat),run (flagsA l k) fr hp=some r→∃ fs,(∀ i,(i,false) ∈ fs→∃ v e t xs,nth hp i=.row v false e t xs)∧run (k fs) fr hp=some r
 | [],hr=>⟨[],fun _ h=>(by cases h),hr⟩
 | i :: l,hr=>by
  simp only [flagsA,run,if_true] at hr
  split at hr
  ·rename_i v sh e t xs hb
   obtain ⟨fs,h1,h2⟩:=flagsA_elim l hr
   refine ⟨(i,sh) :: fs,fun j hj=>?_,h2⟩
   rcases List.mem_cons.1 hj with h | h
   ·cases h;exact ⟨v,e,t,xs,hb⟩
   ·exact h1 j h
  ·obtain ⟨fs,h1,h2⟩:=flagsA_elim l hr
   exact ⟨fs,h1,h2⟩
theorem backA_elim {α:Type} {r:α × List SV × List SV} {k:Acc P G α}:∀ (fs:List (Nat × Bool)) (hp:List SV),run (backA fs k) fr hp=some r →
 ∃ hp',(∀ i,nth hp' i=nth hp i ∨ ((i,false) ∈ fs∧∃ v sh e t xs,nth hp i=.row v sh e t xs∧nth hp' i=.row v false e t xs))∧run k fr hp'=some r
 | [],hp,hr=>⟨hp,fun _=>.inl rfl,hr⟩
 |(i,sh) :: fs,hp,hr=>by
  simp only [backA] at hr
  cases sh with
  | true =>
   obtain ⟨hp',h1,h2⟩:=backA_elim fs hp hr
   exact ⟨hp',fun j=>(h1 j).imp_right fun h=>⟨List.mem_cons_of_mem _ h.1,h.2⟩,h2⟩
  | false =>
   simp only [cond,run,if_true] at hr
   split at hr
   ·rename_i v sh e t xs hb
    simp only [run,if_true] at hr
    have hin:i < hp.length:=nth_in (by rw [hb];simp)
    obtain ⟨hp',h1,h2⟩:=backA_elim fs _ hr
    refine ⟨hp',fun j=>?_,h2⟩
    by_cases e':i=j
    ·subst e'
     refine .inr ⟨List.mem_cons_self,v,sh,e,t,xs,hb,?_⟩
     have:=h1 i
     rw [nth_put_eq _ _ _ hin] at this
     rcases this with k | ⟨_,v',s',e',t',xs',k1,k2⟩
     ·exact k
     ·cases k1;exact k2
    ·have:=h1 j
     rw [nth_put_ne _ _ _ _ e'] at this
     exact this.imp_right fun h=>⟨List.mem_cons_of_mem _ h.1,h.2⟩
   ·exact fail_elim hr
theorem rel_flat {w w':World} {N N':Reg}:∀ (t:Ty) (x:t.denote) (cs:List Value),t.flat=true→rel w N t x cs→rel w' N' t x cs
 | .int _,_,_,_,h=>h
 | .bool,_,_,_,h=>h
 | .str,_,_,_,h=>h
 | .unit,_,_,_,h=>h
 | .opq,_,_,_,h=>h
 | .pair a b,x,cs,hf,h=>by
  simp only [Ty.flat,Bool.and_eq_true] at hf
  obtain ⟨c1,c2,e,h1,h2⟩:=h
  exact ⟨c1,c2,e,rel_flat a _ _ hf.1 h1,rel_flat b _ _ hf.2 h2⟩
 | .list t,_,_,hf,_=>by cases hf
 | .arr n t,xs,cs,hf,h=>by
  obtain ⟨hn,css,e,hl,h⟩:=h
  exact ⟨hn,css,e,hl,fun i hi hi'=>rel_flat t _ _ hf (h i hi hi')⟩
theorem Sim.quiet {tm:Array Value} {β':Nat→BI} {hp3 hp4:List SV} {w':World} {N':Reg} {svs:List SV} (h:Sim G E fr hp tm w β N) (k:Sim G E fr hp3 tm w' β' N') (q:Quiet β hp w N β' hp3 w' N' svs)
 (hb:∀ i,nth hp4 i=nth hp3 i ∨ ((∃ v e t xs,nth hp i=.row v false e t xs)∧∃ v sh e t xs,nth hp3 i=.row v sh e t xs∧nth hp4 i=.row v false e t xs)):Sim G E fr hp4 tm w' β' N:=by
 have hE:Ext w N w' N:=fun b o hb=>⟨hb,by unfold World.cell?;rw [q.block b (h.ok b o hb)]⟩
 have blk4:∀ i,blkOf β' hp4 i=blkOf β' hp3 i:=fun i=>by
  unfold blkOf
  rcases hb i with e | ⟨_,v,sh,e,t,xs,k1,k2⟩
  ·rw [e]
  ·rw [k1,k2];rfl
 -- as it was, or read by others; or new
 have cases4:∀ i,(β' i=β i∧(nth hp4 i=nth hp i ∨ ∃ v sh e t xs,nth hp i=.row v sh e t xs∧nth hp4 i=.row v true e t xs)) ∨
  ((nth hp i=.none ∨ (kindB (nth hp i) ≤ 1∧bver (nth hp i) < bver (nth hp4 i)))∧∃ v e t xs,nth hp3 i=.row v false e t xs∧nth hp4 i=.row v false e t xs∧t.flat=true∧∀ g,(β' i).val.ownBlock=some g→w.heap.size ≤ g):=by
  intro i
  rcases q.box i with ⟨e1,e2⟩ | ⟨e1,v,e,t,xs,e2,e3,e4⟩
  ·refine .inl ⟨e1,?_⟩
   rcases hb i with k4 | ⟨⟨v0,e0,t0,xs0,k0⟩,v,sh,e,t,xs,k1,k2⟩
   ·rw [k4];exact e2
   ·rcases e2 with e2 | ⟨v',sh',e',t',xs',j1,j2⟩
    ·rw [← e2,k1] at k0
     cases k0
     rw [k2,← k1];exact .inl e2
    ·rw [k1] at j2
     cases j2
     rw [k0] at j1
     cases j1
     rw [k2,k0];exact .inl rfl
  ·have e4':nth hp4 i=.row v false e t xs:=by
    rcases hb i with k4 | ⟨_,v',sh',e',t',xs',k1,k2⟩
    ·rw [k4];exact e2
    ·rw [e2] at k1;cases k1;exact k2
   refine .inr ⟨?_,v,e,t,xs,e2,e4',e3,e4⟩
   rw [e4'];rw [e2] at e1;exact e1
 have hL:Later β hp β' hp4:=by
  intro i hi
  rcases cases4 i with ⟨e1,e2 | ⟨v,sh,e,t,xs,k1,k2⟩⟩ | ⟨k0,v,e,t,xs,_,k1,_⟩
  ·exact ⟨by rw [e2];exact hi,.inr ⟨by rw [e2],e1,fun p=>by rw [e2],by rw [e2]⟩⟩
  ·exact ⟨by rw [k2];simp,.inr ⟨by rw [k1,k2];rfl,e1,fun p=>by rw [k1,k2];rfl,by rw [k1,k2];rfl⟩⟩
  ·refine ⟨by rw [k1];simp,.inl ?_⟩
   rcases k0 with k0 | k0
   ·exact (hi k0).elim
   ·exact k0.2
 refine ⟨h.len,fun i=>VR.later hL hE (h.slot i),fun i=>?_,fun i j b hi hj=>?_,fun i b hi=>?_,k.os,k.tape,k.output,k.size,k.frame,h.keep.trans hE,fun b o ho=>h.new b o ho,fun b o ho=>Nat.lt_of_lt_of_le (h.ok b o ho) q.size,fun v hv=>?_,fun i x hx=>?_⟩
 ·rcases cases4 i with ⟨e1,e2⟩ | ⟨k0,v,e,t,xs,k3,k1,hf,hg⟩
  ·have same:BR β' hp4 w' N i (nth hp i):=BR.later hL hE e1 (h.box i) (fun g hg=>⟨q.block g (h.bnd _ _ hg).1,fun _ ho=>ho⟩)
   rcases e2 with e2 | ⟨v,sh,e,t,xs,j1,j2⟩
   ·rw [e2];exact same
   ·rw [j2]
    rw [j1] at same
    exact ⟨same.1.true_,same.2⟩
  ·have hbk:=k.box i
   rw [k3] at hbk
   rw [k1]
   obtain ⟨⟨⟨css,h1,h2,h3⟩,h4⟩,h5⟩:=hbk
   exact ⟨⟨⟨css,h1,fun j hj hj'=>rel_flat t _ _ hf (h2 j hj hj'),h3⟩,fun g hg' o ho=>h4 g hg' o (q.sub g o ho)⟩,h5⟩
 ·rw [blk4] at hi hj
  exact k.apart i j b hi hj
 ·rw [blk4] at hi
  exact k.bnd i b hi
 ·obtain ⟨cs,h1,h2⟩:=h.glob v hv
  exact ⟨cs,rel_ext hE _ _ _ h1,h2.ext hE⟩
 ·obtain ⟨h1,h2,h3⟩:=h.pin i x hx
  rcases cases4 i with ⟨e1,e2 | ⟨v,sh,e,t,xs,j1,j2⟩⟩ | ⟨k0,_⟩
  ·exact ⟨h1,by rw [e2];exact h2,e1.trans h3⟩
  ·rw [j1] at h2
   have h2:1=x.2:=h2
   omega
  ·rcases k0 with k0 | k0
   ·rw [k0] at h2
    have h2:0=x.2:=h2
    omega
   ·omega
theorem kindsOf_has:∀ (fs:List (Nat × Nat × IntKind)),∀ p ∈ fs,hasK (kindsOf fs) p.2.2=true
 | [],p,h=>by cases h
 | q :: fs,p,h=>by
  simp only [kindsOf,hasK,List.any_cons,Bool.or_eq_true,decide_eq_true_eq]
  rcases List.mem_cons.1 h with rfl | h
  ·exact .inl rfl
  ·exact .inr (kindsOf_has fs p h)
theorem loansA_elim {α:Type} {r:α × List SV × List SV} {k:List (Nat × Nat × IntKind)→Acc P G α}:∀ (l:List Nat),run (loansA l k) fr hp=some r →
 ∃ fs,(∀ p ∈ fs,∃ e xs,nth hp p.1=.row p.2.1 false e (.int p.2.2) xs)∧run (k fs) fr hp=some r
 | [],hr=>⟨[],fun _ h=>(by cases h),hr⟩
 | i :: l,hr=>by
  simp only [loansA,run,if_true] at hr
  split at hr
  ·rename_i v sh e t xs hb
   cases sh with
   | true=>exact loansA_elim l hr
   | false =>
    simp only [cond] at hr
    cases t with
    | int j =>
     obtain ⟨fs,h1,h2⟩:=loansA_elim l hr
     refine ⟨(i,v,j) :: fs,fun p hp=>?_,h2⟩
     rcases List.mem_cons.1 hp with rfl | hp
     ·exact ⟨e,xs,hb⟩
     ·exact h1 p hp
    | _=>exact loansA_elim l hr
  ·exact loansA_elim l hr
def Given (fs:List (Nat × Nat × IntKind)) (hp hp':List SV) (i:Nat):Prop:=∃ p ∈ fs,p.1=i∧∃ sh e xs,nth hp i=.row p.2.1 sh e (.int p.2.2) xs∧nth hp' i=.row p.2.1 false e (.int p.2.2) xs
theorem backL_elim {α:Type} {r:α × List SV × List SV} {k:Acc P G α}:∀ (fs:List (Nat × Nat × IntKind)) (hp:List SV),run (backL fs k) fr hp=some r →
 ∃ hp',(∀ i,nth hp' i=nth hp i ∨ Given fs hp hp' i)∧run k fr hp'=some r
 | [],hp,hr=>⟨hp,fun _=>.inl rfl,hr⟩
 |(i,v,j) :: fs,hp,hr=>by
  have more:∀ {hp0:List SV},(∀ q,nth hp0 q=nth hp q ∨ Given fs hp hp0 q)→∀ q,nth hp0 q=nth hp q ∨ Given ((i,v,j) :: fs) hp hp0 q:=fun h q=>(h q).imp_right fun ⟨p,h1,h2⟩=>⟨p,List.mem_cons_of_mem _ h1,h2⟩
  simp only [backL,run,if_true] at hr
  split at hr
  ·rename_i v' sh e t xs hb
   split at hr
   ·rename_i j' xs
    cases hc:(Nat.beq v v' && decide (j=j')) with
    | false =>
     rw [hc] at hr
     obtain ⟨hp',h1,h2⟩:=backL_elim fs hp hr
     exact ⟨hp',more h1,h2⟩
    | true =>
     rw [hc] at hr
     simp only [Bool.and_eq_true,decide_eq_true_eq] at hc
     have hv:v=v':=Nat.eq_of_beq_eq_true hc.1
     obtain rfl:=hc.2
     subst hv
     simp only [cond,run,if_true] at hr
     have hin:i < hp.length:=nth_in (by rw [hb];simp)
     obtain ⟨hp',h1,h2⟩:=backL_elim fs _ hr
     refine ⟨hp',fun q=>?_,h2⟩
     by_cases e':i=q
     ·subst e'
      refine .inr ⟨(i,v,j),List.mem_cons_self,rfl,sh,e,xs,hb,?_⟩
      have:=h1 i
      rw [nth_put_eq _ _ _ hin] at this
      rcases this with k | ⟨p,_,_,sh',e',xs',k1,k2⟩
      ·exact k
      ·rw [nth_put_eq _ _ _ hin] at k1
       rw [k2]
       cases k1
       rfl
     ·have:=h1 q
      rw [nth_put_ne _ _ _ _ e'] at this
      refine this.imp_right fun ⟨p,k1,k2,sh',e',xs',k3,k4⟩=>⟨p,List.mem_cons_of_mem _ k1,k2,sh',e',xs',?_,k4⟩
      rwa [nth_put_ne _ _ _ _ (by omega)] at k3
   ·obtain ⟨hp',h1,h2⟩:=backL_elim fs hp hr
    exact ⟨hp',more h1,h2⟩
  ·obtain ⟨hp',h1,h2⟩:=backL_elim fs hp hr
   exact ⟨hp',more h1,h2⟩
theorem Sim.loan {K:List IntKind} {fs:List (Nat × Nat × IntKind)} {tm:Array Value} {β':Nat→BI} {hp3 hp4:List SV} {w':World} {N':Reg} (hK:∀ p ∈ fs,hasK K p.2.2=true) (h:Sim G E fr hp tm w β N)
 (hfs:∀ p ∈ fs,∃ e xs,nth hp p.1=.row p.2.1 false e (.int p.2.2) xs) (k:Sim G E fr hp3 tm w' β' N') (q:Lent K β hp w N β' hp3 w' N') (hb:∀ i,nth hp4 i=nth hp3 i ∨ Given fs hp3 hp4 i) :
 ∃ M,Sim G E fr hp4 tm w' β' M∧Drop K w' N' M∧(∀ b o,M b o→N' b o)∧Later β' hp3 β' hp4:=by
 let M:Reg:=fun b o=>N' b o∧∀ i,Given fs hp3 hp4 i→blkOf β' hp3 i ≠ some b
 have hs:∀ b o,M b o→N' b o:=fun _ _ h=>h.1
 have same:∀ i,Given fs hp3 hp4 i→β' i=β i∧blkOf β' hp3 i=blkOf β hp i:=by
  rintro i ⟨p,hp1,rfl,sh,e,xs,k1,k2⟩
  obtain ⟨e0,xs0,h0⟩:=hfs p hp1
  obtain ⟨_,hl⟩:=q.later p.1 (by rw [h0];simp)
  rcases hl with hl | ⟨_,hl,_⟩
  ·rw [h0,k1] at hl;exact (Nat.lt_irrefl _ hl).elim
  ·refine ⟨hl,?_⟩
   unfold blkOf
   rw [h0,k1,hl];rfl
 have hEM:Ext w N w' M:=fun b o hN=>by
  obtain ⟨k1,k2⟩:=q.ext b o hN
  refine ⟨⟨k1,fun i hi hbk=>?_⟩,k2⟩
  rw [(same i hi).2] at hbk
  obtain ⟨p,hp1,rfl,_⟩:=hi
  obtain ⟨e0,xs0,h0⟩:=hfs p hp1
  have hbr:=h.box p.1
  rw [h0] at hbr
  unfold blkOf at hbk
  rw [h0] at hbk
  have:=(hbr.1.2 b hbk o hN).1
  cases this
 have blk4:∀ i,blkOf β' hp4 i=blkOf β' hp3 i:=fun i=>by
  unfold blkOf
  rcases hb i with e | ⟨p,_,rfl,sh,e,xs,k1,k2⟩
  ·rw [e]
  ·rw [k1,k2];rfl
 have hL34:Later β' hp3 β' hp4:=fun i hi=>by
  rcases hb i with e | ⟨p,_,rfl,sh,e,xs,k1,k2⟩
  ·exact ⟨by rw [e];exact hi,.inr ⟨by rw [e],rfl,fun p=>by rw [e],by rw [e]⟩⟩
  ·exact ⟨by rw [k2];simp,.inr ⟨by rw [k1,k2];rfl,rfl,fun p=>by rw [k1,k2];rfl,by rw [k1,k2];rfl⟩⟩
 have hD:Drop K w' N' M:=by
  intro b o hN
  by_cases hc:∃ i,Given fs hp3 hp4 i∧blkOf β' hp3 i=some b
  ·obtain ⟨i,⟨p,hp1,rfl,sh,e,xs,k1,k2⟩,hbk⟩:=hc
   right
   have hbr:=k.box p.1
   rw [k1] at hbr
   unfold blkOf at hbk
   rw [k1] at hbk
   have hbk:(β' p.1).val.ownBlock=some b:=hbk
   obtain ⟨_,ho⟩:=hbr.1.2 b hbk o hN
   obtain ⟨A,cap,e1,e2,e3,e4,e5⟩:=hbr.1.cells
   have ho:o < xs.length:=by simpa [Ty.size] using ho
   obtain ⟨ad,c,eA,r1,r2⟩:=e5 o ho
   obtain ⟨o1,o2,o3⟩:=e4 ad eA
   rw [hbk] at o3
   have r1:c=[.int p.2.2 xs[o]]:=r1
   subst r1
   have:=r2 0 (by simp)
   obtain ⟨b1,b2,b3⟩:=ad
   simp only at o1 o2 o3
   subst o1 o2
   cases o3
   refine ⟨p.2.2,xs[o],hK p hp1,?_⟩
   simp [Addr.add,Ty.size] at this
   split at this
   ·rename_i h0
    rw [show (⟨b,o,none⟩:Addr)=⟨b,0,none⟩ by rw [h0]]
    exact this
   ·exact this
  ·exact .inl ⟨hN,fun i hi e=>hc ⟨i,hi,e⟩⟩
 have hL4:=q.later.trans hL34
 refine ⟨M,⟨k.len,fun i=>VR.later hL4 hEM (h.slot i),fun i=>?_,fun i j b hi hj=>?_,fun i b hi=>?_,k.os,k.tape,k.output,k.size,k.frame,h.keep.trans hEM,fun b o ho=>k.new b o ho.1,fun b o ho=>k.ok b o ho.1,fun v hv=>?_,fun i x hx=>?_⟩,hD,hs,hL34⟩
 ·rcases hb i with e | hg
  ·rw [e]
   have hk:=k.box i
   rcases q.box i with ho | hn | ⟨b1,b2,b3⟩
   ·exact BR.loan hD hs ho (BR.later hL34 (Ext.refl w' N') rfl hk (fun g _=>⟨rfl,fun _ h=>h⟩))
   ·rcases hn with hn | ⟨v,hn⟩ <;> rw [hn] <;> exact True.intro
   ·have h0:=h.box i
    have row:∀ {v:Nat} {sh sh':Bool} {e:TypeId} {t:Ty} {xs:List t.denote},nth hp i=.row v sh e t xs→nth hp3 i=.row v sh' e t xs→BR β' hp4 w' M i (nth hp3 i):=by
     intro v sh sh' e t xs j1 j2
     rw [j1] at h0
     rw [j2] at hk ⊢
     obtain ⟨⟨⟨css,c1,c2,c3,c4⟩,c5⟩,c6⟩:=h0
     refine ⟨⟨⟨css,c1,fun i hi hi'=>rel_ext hEM _ _ _ (c2 i hi hi'),c3,?_⟩,fun g hg o hm=>hk.1.2 g hg o hm.1⟩,hk.2⟩
     rw [b1]
     rcases c4 with c4 | ⟨g,cap,cur,d1,d2,d3,d4⟩
     ·exact .inl c4
     ·refine .inr ⟨g,cap,cur,d1,d2,?_,d4⟩
      rw [b3 g (by unfold blkOf;rw [j1];show (β i).val.ownBlock=some g;rw [d1];rfl)]
      exact d3
    rcases b2 with b2 | ⟨v,sh,e,t,xs,j1,j2⟩
    ·cases hr:nth hp i with
     | row v sh e t xs=>exact row hr (b2.trans hr)
     | none=>rw [b2,hr];exact True.intro
     | dead v=>rw [b2,hr];exact True.intro
     | _ =>
      rw [b2]
      refine BR.later hL4 hEM b1 h0 (fun g hg=>⟨b3 g hg,fun o hm=>?_⟩)
      rw [b2] at hk
      rw [hr] at hk hg
      first
      |(have hg:(β i).blk=g:=by simpa [blkB] using hg
        obtain ⟨_,_,_,_,hk⟩:=hk
        exact (hk o (by rw [b1,hg];exact hm.1)).elim)
      |(have hg:(β i).blk=g:=by simpa [blkB] using hg
        exact (hk.2 o (by rw [b1,hg];exact hm.1)).elim)
    ·exact row j1 j2
  ·have hg':=hg
   obtain ⟨p,hp1,rfl,sh,e,xs,k1,k2⟩:=hg
   have hk:=k.box p.1
   rw [k1] at hk
   rw [k2]
   obtain ⟨⟨⟨css,c1,c2,c3⟩,c5⟩,c6⟩:=hk
   refine ⟨⟨⟨css,c1,fun i hi hi'=>c2 i hi hi',c3⟩,fun g hgk o hm=>?_⟩,c6⟩
   exact (hm.2 p.1 hg' (by unfold blkOf;rw [k1];exact hgk)).elim
 ·rw [blk4] at hi hj
  exact k.apart i j b hi hj
 ·rw [blk4] at hi
  exact k.bnd i b hi
 ·obtain ⟨cs,h1,h2⟩:=h.glob v hv
  exact ⟨cs,rel_ext hEM _ _ _ h1,h2.ext hEM⟩
 ·obtain ⟨h1,h2,h3⟩:=k.pin i x hx
  rcases hb i with e | ⟨p,_,rfl,sh,e,xs,k1,k2⟩
  ·exact ⟨h1,by rw [e];exact h2,h3⟩
  ·rw [k1] at h2
   have h2:1=x.2:=h2
   omega
theorem callQ_elim {nt nh base:Nat} {e:Kn P G} {vs:List SV} {us0:List Value} {tm:Array Value} (h:Sim G E fr hp tm w β N) (hl:vs.length=us0.length) (hvs:∀ i,VR β hp w N (nth vs i) (us0.toArray.getD i undef)) {k:List SV→U P G} (hr:run (callQ nt nh base e vs k) fr hp=some r) :
 Calls P e.id us0.toArray w fun e' w'=>∃ us svs hp' β' N',e'=.returned (retVal us)∧svs.length=us.length∧Sim G E fr hp' tm w' β' N'∧(∀ i,VR β' hp' w' N' (nth svs i) (us.toArray.getD i undef))∧run (k svs) fr hp'=some r:=by
 unfold callQ at hr
 cases hq:(quietH e.hd && quietOs e.outs) with
 | false =>
  rw [hq] at hr
  obtain ⟨fs,hfs,hr⟩:=loansA_elim (ownsOf vs) (show run (loansA (ownsOf vs) fun fs=>cond (loanOs (kindsOf fs) e.outs) (callA nt nh base e vs fun us=>backL fs (k us)) (callA nt nh base e vs k)) fr hp=some r from hr)
  cases hlo:loanOs (kindsOf fs) e.outs with
  | false =>
   rw [hlo] at hr
   refine (callA_elim h hl hvs hr).mono fun e' w' he=>?_
   obtain ⟨us,svs,hp',β',N',h1,h2,h3,h4,h5,_⟩:=he
   exact ⟨us,svs,hp',β',N',h1,h2,h3,h4,h5⟩
  | true =>
   rw [hlo] at hr
   refine (callA_elim h hl hvs hr).mono fun e' w' he=>?_
   obtain ⟨us,svs,hp3,β',N',h1,h2,h3,h4,h5,_,hlent⟩:=he
   obtain ⟨hok,lent⟩:=hlent _ hlo
   obtain ⟨hp4,hb,hr⟩:=backL_elim fs hp3 h5
   obtain ⟨M,hM,hD,hs,hL⟩:=Sim.loan (K:=kindsOf fs) (fs:=fs) (kindsOf_has fs) h hfs h3 lent hb
   exact ⟨us,svs,hp4,β',M,h1,h2,hM,fun i=>(VR.later hL (Ext.refl _ _) (h4 i)).loan hD (hok i),hr⟩
 | true =>
  rw [hq] at hr
  simp only [Bool.and_eq_true] at hq
  obtain ⟨fs,hfs,hr⟩:=flagsA_elim (ownsOf vs) hr
  refine (callA_elim h hl hvs hr).mono fun e' w' he=>?_
  obtain ⟨us,svs,hp3,β',N',h1,h2,h3,h4,h5,hqt,_⟩:=he
  have q:=hqt hq.1 hq.2
  obtain ⟨hp4,hb,hr⟩:=backA_elim fs hp3 h5
  have hs:=Sim.quiet (hp4:=hp4) h h3 q (fun i=>(hb i).imp_right fun k=>⟨hfs i k.1,k.2⟩)
  refine ⟨us,svs,hp4,β',N,h1,h2,hs,fun i=>?_,hr⟩
  have hv:=h4 i
  have hf:=q.slot i
  generalize nth svs i=sv at hv hf
  cases sv with
  | none=>exact True.intro
  | nilS=>exact hv
  | nilP=>exact hv
  | imm t x =>
   obtain ⟨cs,k1,k2⟩:=(hv:IsImm w' N' t x _)
   exact ⟨cs,rel_flat t _ _ hf k1,k2⟩
  | own id ver =>
   obtain ⟨k1,k2,k3,k4⟩:=(hv:nth hp3 id ≠ .none∧ver ≤ bver (nth hp3 id)∧(us.toArray.getD i undef).oneCell'=true∧∀ sh e t xs,nth hp3 id=.row ver sh e t xs→us.toArray.getD i undef=(β' id).val)
   refine (⟨?_,?_,k3,fun sh e t xs hrow=>?_⟩:nth hp4 id ≠ .none∧ver ≤ bver (nth hp4 id)∧(us.toArray.getD i undef).oneCell'=true∧∀ sh e t xs,nth hp4 id=.row ver sh e t xs→us.toArray.getD i undef=(β' id).val)
   ·rcases hb id with e | ⟨_,v,sh,e,t,xs,j1,j2⟩
    ·rw [e];exact k1
    ·rw [j2];simp
   ·rcases hb id with e | ⟨_,v,sh,e,t,xs,j1,j2⟩
    ·rw [e];exact k2
    ·rw [j2];rw [j1] at k2;exact k2
   ·rcases hb id with e' | ⟨_,v,sh',e',t',xs',j1,j2⟩
    ·exact k4 sh e t xs (e' ▸ hrow)
    ·rw [j2] at hrow
     cases hrow
     exact k4 _ _ _ _ j1
  | _=>exact (hf:False).elim
theorem ex_call {f:FuncId} {fo:Operand} {args:Array Operand} {tys:Array TypeId} {us:List Value} (ho:o.op=.call ⟨.value fo,args,tys⟩) (hfo:a.eval fo=.func (.func f) #[] us.toArray) (hc:callable P f=true):(execOp a.eval o).run P w=.ok (.enter f (args.map a.eval ++ us.toArray)) w:=by
 unfold callable at hc
 split at hc
 ·rename_i fn hf
  simp only [Bool.and_eq_true,Bool.not_eq_true'] at hc
  obtain ⟨h1,h2⟩:=hc
  have hb:¬ fn.body=none:=by intro hfb;simp [hfb] at h1
  have h2 : ¬ fn.name = "runtime.NumGoroutine" := by simpa using h2
  unfold execOp
  rw [ho]
  simp [resolve,Deferred.ofValue,hfo,invoke,callFunc,hf,h2,hb]
 ·cases hc
theorem noTup_nth:∀ (vs:List SV),noTup vs=true→∀ i us,nth vs i ≠ .tup us
 | [],_,i,us,h=>by cases h
 | v :: vs,h,i,us,e=>by
  cases v with
  | tup ws=>cases h
  | _=>cases i with
   | zero=>cases e
   | succ i=>exact noTup_nth vs h i us e
theorem op_call_core (nt nh:Nat) {e:Kn P G} {vs:List SV} {us0:List Value} (h:Sim G E fr hp a.tmps w β N) (hlen:vs.length=us0.length) (hvs:∀ i,VR β hp w N (nth vs i) (us0.toArray.getD i undef))
 (hex:(execOp a.eval o).run P w=.ok (.enter e.id us0.toArray) w)
 (hr2:run (callQ nt nh (immStep o.dst) e vs fun vs=>(match vs with
  | [v]=>setD o.dst v (.pure ())
  | vs=>cond (noTup vs) (setD o.dst (.tup vs) (.pure ())) .fail):U P G) fr hp=some r):Does P o a w (After G E a r):=by
 have hk:=callQ_elim h (us0:=us0) hlen hvs hr2
 intro next Q hn
 unfold Oper.wp
 rw [hex,Oper.upon_enter]
 refine hk.mono fun e' w' he'=>?_
 obtain ⟨us,svs,hp',β',N',rfl,hsl,hs',hv,hr⟩:=he'
 have fin:∀ sv,VR β' hp' w' N' sv (retVal us)→run (setD o.dst sv (.pure ()):U P G) fr hp'=some r→next (a.put o.dst (retVal us)) w':=by
  intro sv hv hr
  refine hn _ _ ⟨put_defers _ _ _,β',N',?_⟩
  obtain ⟨e1,e2⟩:=setD_run hr
  rw [e1,e2]
  exact hs'.dst _ hv
 have tup:us.length ≠ 1→noTup svs=true→VR β' hp' w' N' (.tup svs) (retVal us):=fun hne hnt=>by
  have:retVal us=.tuple us.toArray:=by
   match us,hne with
   | [],_=>rfl
   | [u],h=>exact (h rfl).elim
   | _ :: _ :: _,_=>rfl
  rw [this]
  refine ⟨us,rfl,hsl.symm,fun i _=>?_⟩
  have hvi:=hv i
  have hne:=noTup_nth svs hnt i
  rw [show us.getD i undef=us.toArray.getD i undef by simp [List.getD_eq_getElem?_getD,Array.getD_eq_getD_getElem?]]
  cases hh:nth svs i with
  | tup ws=>exact (hne _ hh).elim
  | _=>rw [hh] at hvi;exact hvi
 match svs,hsl,hv,hr,tup with
 | [],hsl,hv,hr,tup=>obtain ⟨hnt,hr⟩:=cond_fail hr;exact fin _ (tup (by rw [← hsl];simp) hnt) hr
 | [v],hsl,hv,hr,_ =>
  match us,hsl,hv,fin with
  | [u],_,hv,fin=>exact fin v (hv 0) hr
 | _ :: _ :: _,hsl,hv,hr,tup=>obtain ⟨hnt,hr⟩:=cond_fail hr;exact fin _ (tup (by rw [← hsl];simp) hnt) hr
theorem op_row {id0:FuncId} {rf:RowFn P id0} {vs:List SV} {us0:List Value} (h:Sim G E fr hp a.tmps w β N) (hlen:vs.length=us0.length) (hvs:∀ i,VR β hp w N (nth vs i) (us0.toArray.getD i undef))
 (hex:(execOp a.eval o).run P w=.ok (.enter id0 us0.toArray) w) (hr:run (rowCallA rf vs (setD o.dst (.tup []) (.pure ())):U P G) fr hp=some r):Does P o a w (After G E a r):=by
 match vs,us0,hlen,hvs,hr with
 | [v],[u],_,hvs,hr =>
  have hv:=hvs 0
  cases v with
  | own i ver =>
   obtain ⟨h1,h2,_,h3⟩:=(hv:nth hp i ≠ .none∧ver ≤ bver (nth hp i)∧u.oneCell'=true∧∀ sh e t xs,nth hp i=.row ver sh e t xs→u=(β i).val)
   simp only [rowCallA,run,if_true] at hr
   split at hr
   ·rename_i v sh e t xs hrow
    obtain ⟨hver,hr1⟩:=cond_fail hr
    have hver:v=ver:=Nat.eq_of_beq_eq_true hver
    subst hver
    cases sh with
    | true=>exact fail_elim hr1
    | false =>
     have hr1:run (castA (.list t) (.list rf.t) xs fun xs=>.wr true i (.row v false e rf.t (rf.f xs)) (setD o.dst (.tup []) (.pure ())):U P G) fr hp=some r:=hr1
     obtain ⟨et,hr2⟩:=castA_elim hr1
     have et:t=rf.t:=by cases et;rfl
     obtain ⟨rt,rfun,rlen,rholds⟩:=rf
     simp only at et
     subst et
     simp only [run,if_true] at hr2
     have hu:u=(β i).val:=h3 _ _ _ _ hrow
     have hbr:=h.box i
     rw [hrow] at hbr
     have hk:=rholds w N e xs u (by rw [hu];exact hbr.1) h.ok
     intro next Q hn
     unfold Oper.wp
     rw [hex,Oper.upon_enter]
     refine hk.mono fun e' w' he=>?_
     obtain ⟨rfl,hrow',hE,hl⟩:=he
     rw [hu] at hrow' hl
     have hs:=h.sameRow hrow (rlen xs) hE hl hrow'
     refine hn _ _ ⟨put_defers _ _ _,β,N,?_⟩
     obtain ⟨e1,e2⟩:=setD_run hr2
     rw [e1,e2]
     exact hs.dst _ (⟨[],rfl,rfl,fun i hi=>absurd hi (Nat.not_lt_zero _)⟩:∃ us:List Value,Value.tuple #[]=.tuple us.toArray∧us.length=([]:List SV).length∧∀ i,i < ([]:List SV).length→VR1 β _ w' N (nth [] i) (us.getD i undef))
   ·exact fail_elim hr
  | _=>exact fail_elim hr
 | [],_,_,_,hr=>exact fail_elim hr
 | _ :: _ :: _,_,_,_,hr=>exact fail_elim hr
theorem nth_append (us vs:List SV) (i:Nat):nth (us ++ vs) i=if i < us.length then nth us i else nth vs (i - us.length):=by
 induction us generalizing i with
 | nil=>simp
 | cons u us ih=>cases i with
  | zero=>simp [nth]
  | succ i=>simp only [List.cons_append,nth,ih,List.length_cons];simp
theorem op_call (env:List (Kn P G)) (nt nh:Nat) {fo:Operand} {args:Array Operand} {tys:Array TypeId} (ho:o.op=.call ⟨.value fo,args,tys⟩) (h:Sim G E fr hp a.tmps w β N)
 (hr:run (rdO fo fun f=>(match f with
  | .fn f=>rdsA args.toList fun vs=>fnA vs env f fun e=>(match e.row with
   | none=>callQ nt nh (immStep o.dst) e vs fun vs=>(match vs with
    | [v]=>setD o.dst v (.pure ())
    | vs=>cond (noTup vs) (setD o.dst (.tup vs) (.pure ())) .fail)
   | some rf=>rowCallA rf vs (setD o.dst (.tup []) (.pure ())))
  | .clo f cs=>rdsA args.toList fun vs=>fnA (vs ++ cs) env f fun e=>callQ nt nh (immStep o.dst) e (vs ++ cs) fun vs=>(match vs with
   | [v]=>setD o.dst v (.pure ())
   | vs=>cond (noTup vs) (setD o.dst (.tup vs) (.pure ())) .fail)
  | _=>.fail):U P G) fr hp=some r):Does P o a w (After G E a r):=by
 obtain ⟨fv,hfv,hr⟩:=rdO_elim h hr
 have hargs:args.map a.eval=(args.toList.map a.eval).toArray:=by apply Array.ext';simp
 cases fv with
 | fn f =>
  have hfo:a.eval fo=.func (.func f) #[] (List.toArray []):=hfv
  obtain ⟨vs,hlen,hvs,hr⟩:=rdsA_elim h args.toList _ hr
  obtain ⟨e,he,hr2⟩:=fnA_elim env hr
  subst he
  have hex:(execOp a.eval o).run P w=.ok (.enter e.id (args.toList.map a.eval).toArray) w:=by rw [ex_call ho hfo e.holds.1,hargs];simp
  cases hrow:e.row with
  | none =>
   rw [hrow] at hr2
   exact op_call_core nt nh h (us0:=args.toList.map a.eval) (by rw [hlen];simp) hvs hex hr2
  | some rf =>
   rw [hrow] at hr2
   exact op_row (rf:=rf) h (us0:=args.toList.map a.eval) (by rw [hlen];simp) hvs hex hr2
 | clo f cs =>
  obtain ⟨us,hfo,hul,hus⟩:=(hfv:∃ us:List Value,a.eval fo=.func (.func f) #[] us.toArray∧us.length=cs.length∧∀ i,i < cs.length→∃ id ver p t,nth cs i=.ptr id ver p t∧PtrR β hp id ver p t (us.getD i undef))
  obtain ⟨vs,hlen,hvs,hr⟩:=rdsA_elim h args.toList _ hr
  obtain ⟨e,he,hr2⟩:=fnA_elim env hr
  subst he
  refine op_call_core nt nh h (us0:=args.toList.map a.eval ++ us) (by simp [hlen,hul]) (fun i=>?_) (by rw [ex_call ho hfo e.holds.1,hargs];simp) hr2
  rw [nth_append]
  split
  ·rename_i hi
   have:=hvs i
   rw [show (args.toList.map a.eval ++ us).toArray.getD i undef=(args.toList.map a.eval).toArray.getD i undef by
    simp only [Array.getD_eq_getD_getElem?,List.getElem?_toArray]
    rw [List.getElem?_append_left (by rw [List.length_map,← hlen];exact hi)]]
   exact this
  ·rename_i hi
   have hle:(args.toList.map a.eval).length=vs.length:=by simp [hlen]
   rw [show (args.toList.map a.eval ++ us).toArray.getD i undef=us.getD (i - vs.length) undef by
    simp only [Array.getD_eq_getD_getElem?,List.getElem?_toArray,List.getD_eq_getElem?_getD]
    rw [List.getElem?_append_right (by rw [hle];omega),hle]]
   by_cases hj:i - vs.length < cs.length
   ·obtain ⟨id,ver,p,t,e1,e2⟩:=hus _ hj
    rw [e1]
    exact e2
   ·rw [nth_far cs _ (by omega)]
    exact True.intro
 | _=>exact fail_elim hr
theorem allPtr_nth:∀ (vs:List SV),allPtr vs=true→∀ i,i < vs.length→∃ id ver p t,nth vs i=.ptr id ver p t
 | [],_,i,h=>by simp at h
 | v :: vs,h,i,hi=>by
  cases v with
  | ptr id ver p t=>cases i with
   | zero=>exact ⟨id,ver,p,t,rfl⟩
   | succ i=>exact allPtr_nth vs h i (by simpa using hi)
  | _=>cases h
theorem op_makeFunc {f:FuncId} {captured:Array Operand} (ho:o.op=.makeFunc (.func f) #[] captured) (h:Sim G E fr hp a.tmps w β N)
 (hr:run (rdsA captured.toList fun vs=>cloA f vs fun v=>setD o.dst v (.pure ()):U P G) fr hp=some r):Does P o a w (After G E a r):=by
 obtain ⟨vs,hlen,hvs,hr⟩:=rdsA_elim h captured.toList _ hr
 have hmap:captured.map a.eval=(captured.toList.map a.eval).toArray:=by apply Array.ext';simp
 have fin:∀ {sv:SV},VR β hp w N sv (.func (.func f) #[] (captured.map a.eval))→run (setD o.dst sv (.pure ()):U P G) fr hp=some r→Does P o a w (After G E a r):=fun hv hr =>
  does_val (u:=.func (.func f) #[] (captured.map a.eval)) (by unfold execOp;rw [ho];simp [Instr.makeFunc]) h hv hr
 cases vs with
 | nil =>
  have:captured=#[]:=by
   have:captured.toList.length=0:=by rw [← hlen];rfl
   simpa using this
  subst this
  exact fin (sv:=.fn f) (show Value.func (.func f) #[] (Array.map a.eval #[])=.func (.func f) #[] #[] by simp) hr
 | cons v vs =>
  obtain ⟨hp',hr⟩:=cond_fail hr
  refine fin (sv:=.clo f (v :: vs)) ?_ hr
  rw [hmap]
  refine (⟨captured.toList.map a.eval,rfl,by simp [hlen],fun i hi=>?_⟩:∃ us:List Value,Value.func (.func f) #[] (captured.toList.map a.eval).toArray=.func (.func f) #[] us.toArray∧us.length=(v :: vs).length∧∀ i,i < (v :: vs).length→∃ id ver p t,nth (v :: vs) i=.ptr id ver p t∧PtrR β hp id ver p t (us.getD i undef))
  obtain ⟨id,ver,p,t,e⟩:=allPtr_nth _ hp' i hi
  have:=hvs i
  rw [e] at this
  refine ⟨id,ver,p,t,e,?_⟩
  rw [show (captured.toList.map a.eval).getD i undef=(captured.toList.map a.eval).toArray.getD i undef by simp [List.getD_eq_getElem?_getD,Array.getD_eq_getD_getElem?]]
  exact this
end Ev
end Go.Proofs.YtlfcdmibknmjeaaGreatDoor
namespace Go.Proofs.YtlfcdmibknmjeaaGreatDoor
namespace Ev
open Go Go.RowKit
variable {P:Program} {G:List GV} {E:Entry} {fr hp:List SV} {w:World} {β:Nat→BI} {N:Reg} {r:Unit × List SV × List SV} {a:Act} {o:Oper} {T:Tab}
theorem ck_flds (em:Bool) (w':World) {d:Nat} (IH:∀ (t:Ty),t.high ≤ d→∀ (id:TypeId) (cs:List Value) (x:t.denote),tyChk P t none id=true→eqChk P t none id=true→rel w N t x cs→(Instr.checkKey em (d + 1) id (valOf t cs)).run P w'=.ok () w') :
 ∀ (t:Ty),t.high ≤ d + 1→∀ (fs:List Field) (pre cs:List Value) (x:t.denote),Flds P t fs pre.length→eqChk P t (some fs) 0=true→rel w N t x cs →
  (forIn fs PUnit.unit (fun f _ => if f.name ≠ "_" then (do
   let v ← part f.type (pre ++ cs).toArray f.offset
   Instr.checkKey em (d + 1) f.type v
   pure (ForInStep.yield PUnit.unit)) else pure (ForInStep.yield PUnit.unit):Field→PUnit→Sem (ForInStep PUnit))).run P w'=.ok PUnit.unit w'
 | .unit,_,fs,pre,cs,x,hf,he,hx=>by
  simp only [eqChk,List.isEmpty_iff] at he;subst he;simp
 | .pair a b,hd,fs,pre,cs,x,hf,he,hx=>by
  simp only [Ty.high] at hd
  obtain ⟨f,gs,rfl,f1,f2,f3,f4⟩:=hf
  simp only [eqChk,Bool.and_eq_true,Bool.not_eq_true'] at he
  obtain ⟨⟨e1,e2⟩,e3⟩:=he
  obtain ⟨c1,c2,rfl,x1,x2⟩:=hx
  have lc:=rel_len a _ _ x1
  have pa:=run_part f3 w' pre c1 c2 lc
  have hn : f.name ≠ "_" := by simpa using e1
  have h1:=IH a (by omega) f.type c1 x.1 f3 e2 x1
  have h2:=ck_flds em w' IH b (by omega) gs (pre ++ c1) c2 x.2 (by rw [List.length_append,lc];exact f4) e3 x2
  rw [← f1] at pa
  rw [List.append_assoc] at pa h2
  simp only [List.forIn_cons,Sem.run_bind,hn,ne_eq,not_false_eq_true,if_true,Result.andThen_ok,pa,h1,Sem.run_pure]
  exact h2
 | .int _,_,_,_,_,_,hf,_,_=>hf.elim
 | .bool,_,_,_,_,_,hf,_,_=>hf.elim
 | .str,_,_,_,_,_,hf,_,_=>hf.elim
 | .opq,_,_,_,_,_,hf,_,_=>hf.elim
 | .list _,_,_,_,_,_,hf,_,_=>hf.elim
 | .arr _ _,_,_,_,_,_,hf,_,_=>hf.elim
theorem ck_items (em:Bool) (w':World) {t:Ty} {d:Nat} {e:TypeId} (he:tyChk P t none e=true) (IH:∀ (cs:List Value) (x:t.denote),rel w N t x cs→(Instr.checkKey em d e (valOf t cs)).run P w'=.ok () w') :
 ∀ (css:List (List Value)) (xs:List t.denote) (pre:List Value) (k:Nat),pre.length=k * t.size→css.length=xs.length→(∀ i (h:i < xs.length) (h':i < css.length),rel w N t xs[i] css[i]) →
  (forIn (List.range' k xs.length) PUnit.unit (fun i _=>do
   let s ← sizeOf e
   let v ← part e (pre ++ css.flatten).toArray (i * s)
   Instr.checkKey em d e v
   pure (ForInStep.yield PUnit.unit):Nat→PUnit→Sem (ForInStep PUnit))).run P w'=.ok PUnit.unit w'
 | [],[],_,_,_,_,_=>by simp
 | c :: css,x :: xs,pre,k,h1,h3,h6=>by
  have rx:=h6 0 (by simp) (by simp)
  simp only [List.getElem_cons_zero] at rx
  have lc:=rel_len t _ _ rx
  have pa:=run_part he w' pre c css.flatten lc
  rw [h1] at pa
  have ih:=ck_items em w' he IH css xs (pre ++ c) (k + 1) (by rw [List.length_append,h1,lc,Nat.succ_mul]) (by simpa using h3) (fun i hi hi'=>h6 (i + 1) (by simpa using hi) (by simpa using hi'))
  simp only [List.length_cons,List.range'_succ,List.flatten_cons]
  rw [List.append_assoc] at pa ih
  simp only [List.forIn_cons,Sem.run_bind,run_sizeOf' he,Result.andThen_ok,pa,IH _ _ rx,Sem.run_pure]
  exact ih
 | [],_ :: _,_,_,_,h,_=>by simp at h
 | _ :: _,[],_,_,_,h,_=>by simp at h
theorem ck_run (em:Bool) (w':World):∀ (d:Nat) (t:Ty),t.high ≤ d→∀ (id:TypeId) (cs:List Value) (x:t.denote),tyChk P t none id=true→eqChk P t none id=true→rel w N t x cs→(Instr.checkKey em (d + 1) id (valOf t cs)).run P w'=.ok () w':=by
 intro d
 induction d with
 | zero =>
  intro t hd id cs x ht he hx
  cases t with
  | int k=>cases hx;simp [Instr.checkKey,run_underlying (tyChk_int ht),valOf,Ty.isAgg]
  | bool=>cases hx;simp [Instr.checkKey,run_underlying (tyChk_bool ht),valOf,Ty.isAgg]
  | str=>cases hx;simp [Instr.checkKey,run_underlying (tyChk_str ht),valOf,Ty.isAgg]
  | unit=>simp [eqChk] at he
  | opq=>simp [eqChk] at he
  | list u=>simp [eqChk] at he
  | pair a b=>simp only [Ty.high] at hd;omega
  | arr n u=>simp [Ty.high] at hd
 | succ d IH =>
  intro t hd id cs x ht he hx
  cases t with
  | int k=>cases hx;simp [Instr.checkKey,run_underlying (tyChk_int ht),valOf,Ty.isAgg]
  | bool=>cases hx;simp [Instr.checkKey,run_underlying (tyChk_bool ht),valOf,Ty.isAgg]
  | str=>cases hx;simp [Instr.checkKey,run_underlying (tyChk_str ht),valOf,Ty.isAgg]
  | unit=>simp [eqChk] at he
  | opq=>simp [eqChk] at he
  | list u=>simp [eqChk] at he
  | pair p q =>
   obtain ⟨fs,hu,hf⟩:=tyChk_struct ht (by simp) rfl
   simp only [eqChk] at he
   obtain ⟨de,hde,he⟩:=undChk_some he
   rw [hu] at hde
   cases hde
   simp only [Bool.and_eq_true,Bool.not_eq_true'] at he
   have he2:eqChk P (.pair p q) (some fs.toList) 0=true:=by
    have h2:=he.2
    simp only [eqChk]
    cases hl:fs.toList with
    | nil=>rw [hl] at h2;simp at h2
    | cons f gs=>rw [hl] at h2;simpa using h2
   have:=ck_flds em w' IH (.pair p q) hd fs.toList [] cs x hf he2 hx
   rw [Instr.checkKey]
   simp only [valOf,Ty.isAgg,Sem.run_bind,run_underlying hu,Result.andThen_ok]
   rw [← Array.forIn_toList]
   simp only [List.nil_append] at this
   rw [this];rfl
  | arr n u =>
   simp only [Ty.high] at hd
   obtain ⟨e,hu,hte,_⟩:=tyChk_arr ht
   simp only [eqChk] at he
   obtain ⟨de,hde,hf⟩:=undChk_some he
   rw [hu] at hde
   cases hde
   simp only [Bool.and_eq_true,decide_eq_true_eq] at hf
   obtain ⟨l1,css,rfl,l2,h1⟩:=hx
   have:=ck_items em w' hte (fun cs x hx=>IH u (by omega) e cs x hte hf.2 hx) css x [] 0 (by simp) (by omega) h1
   rw [Instr.checkKey]
   simp only [valOf,Ty.isAgg,Sem.run_bind,run_underlying hu,Result.andThen_ok]
   simp only [Std.Legacy.Range.forIn_eq_forIn_range',Std.Legacy.Range.size,Nat.sub_zero,Nat.add_one_sub_one,Nat.div_one]
   simp only [List.nil_append,l1] at this
   rw [this];rfl
theorem strEq_eq {a b:ByteArray} (h:strEq a b=true):a=b:=by
 unfold strEq at h
 rw [← beq_toListBytes] at h
 exact (MapKept.bytes_beq a b).1 h
theorem eq_same:∀ (t:Ty) (x y:t.denote) (cs cs':List Value) (id:TypeId) (fs:Option (List Field)),eqChk P t fs id=true→eqv t x y=true→rel w N t x cs→rel w N t y cs'→cs=cs'
 | .int k,x,y,_,_,_,_,_,h,hx,hy=>by
  cases hx;cases hy
  have h:(x == y)=true:=h
  rw [show x=y by simpa using h]
 | .bool,x,y,_,_,_,_,_,h,hx,hy=>by
  cases hx;cases hy
  have h:(x == y)=true:=h
  rw [show x=y by simpa using h]
 | .str,x,y,_,_,_,_,_,h,hx,hy=>by
  cases hx;cases hy
  rw [strEq_eq h]
 | .unit,_,_,_,_,_,_,_,_,hx,hy=>by cases hx;cases hy;rfl
 | .opq,_,_,_,_,_,fs,h,_,_,_=>by cases fs <;> simp [eqChk] at h
 | .list _,_,_,_,_,_,fs,h,_,_,_=>by cases fs <;> simp [eqChk] at h
 | .pair a b,x,y,cs,cs',id,fs,he,h,hx,hy=>by
  have h:(eqv a x.1 y.1 && eqv b x.2 y.2)=true:=h
  simp only [Bool.and_eq_true] at h
  obtain ⟨c1,c2,rfl,x1,x2⟩:=hx
  obtain ⟨d1,d2,rfl,y1,y2⟩:=hy
  have parts:∃ f gs,eqChk P a none f=true∧eqChk P b (some gs) 0=true:=by
   cases fs with
   | none =>
    simp only [eqChk] at he
    obtain ⟨de,hde,he⟩:=undChk_some he
    split at he
    ·rename_i fs
     simp only [Bool.and_eq_true] at he
     have h2:=he.2
     split at h2
     ·simp only [Bool.and_eq_true] at h2;exact ⟨_,_,h2.1.2,h2.2⟩
     ·cases h2
    ·cases he
   | some fs =>
    simp only [eqChk] at he
    split at he
    ·simp only [Bool.and_eq_true] at he;exact ⟨_,_,he.1.2,he.2⟩
    ·cases he
  obtain ⟨f,gs,p1,p2⟩:=parts
  rw [eq_same a _ _ _ _ f none p1 h.1 x1 y1,eq_same b _ _ _ _ 0 (some gs) p2 h.2 x2 y2]
 | .arr n t,x,y,cs,cs',id,fs,he,h,hx,hy=>by
  obtain ⟨l1,c1,rfl,l2,h1⟩:=hx
  obtain ⟨l3,c2,rfl,l4,h2⟩:=hy
  have part:∃ e,eqChk P t none e=true:=by
   cases fs with
   | none =>
    simp only [eqChk] at he
    obtain ⟨de,hde,he⟩:=undChk_some he
    split at he
    ·simp only [Bool.and_eq_true] at he;exact ⟨_,he.2⟩
    ·cases he
   | some fs=>simp [eqChk] at he
  obtain ⟨e,he⟩:=part
  have h:allEq (eqv t) x y=true:=h
  have key:∀ (xs ys:List t.denote) (c1 c2:List (List Value)),allEq (eqv t) xs ys=true→c1.length=xs.length→c2.length=ys.length→(∀ i (h:i < xs.length) (h':i < c1.length),rel w N t xs[i] c1[i])→(∀ i (h:i < ys.length) (h':i < c2.length),rel w N t ys[i] c2[i])→c1=c2:=by
   intro xs
   induction xs with
   | nil =>
    intro ys c1 c2 h l1 l2 _ _
    cases ys with
    | nil=>simp at l1 l2;rw [l1,l2]
    | cons _ _=>cases h
   | cons x xs ih =>
    intro ys c1 c2 h l1 l2 h1 h2
    cases ys with
    | nil=>cases h
    | cons y ys =>
     have h:(eqv t x y && allEq (eqv t) xs ys)=true:=h
     simp only [Bool.and_eq_true] at h
     match c1,c2,l1,l2,h1,h2 with
     | a :: c1,b :: c2,l1,l2,h1,h2 =>
      rw [eq_same t x y a b e none he h.1 (h1 0 (by simp) (by simp)) (h2 0 (by simp) (by simp)),
       ih ys c1 c2 h.2 (by simpa using l1) (by simpa using l2) (fun i hi hi'=>h1 (i + 1) (by simpa using hi) (by simpa using hi')) (fun i hi hi'=>h2 (i + 1) (by simpa using hi) (by simpa using hi'))]
  rw [key x y c1 c2 h (by omega) (by omega) h1 h2]
def Prim (v:Value):Prop:=match v with | .bool _ | .int _ _ | .string _=>True | _=>False
theorem sb_one (n:Nat) {v:Value} (hp:Prim v):Instr.sameBits n v v=true:=by
 cases v with
 | bool b=>cases n <;> simp [Instr.sameBits]
 | int k i=>cases n <;> simp [Instr.sameBits]
 | string s=>cases n <;> simp only [Instr.sameBits] <;> exact (MapKept.bytes_beq s s).2 rfl
 | _=>exact hp.elim
theorem rel_prim:∀ (t:Ty) (x:t.denote) (cs:List Value) (id:TypeId) (fs:Option (List Field)),eqChk P t fs id=true→rel w N t x cs→∀ c ∈ cs,Prim c
 | .int k,x,_,_,_,_,hx=>by cases hx;intro c hc;simp at hc;subst hc;exact True.intro
 | .bool,x,_,_,_,_,hx=>by cases hx;intro c hc;simp at hc;subst hc;exact True.intro
 | .str,x,_,_,_,_,hx=>by cases hx;intro c hc;simp at hc;subst hc;exact True.intro
 | .unit,_,_,_,_,_,hx=>by cases hx;intro c hc;cases hc
 | .opq,_,_,_,fs,h,_=>by cases fs <;> simp [eqChk] at h
 | .list _,_,_,_,fs,h,_=>by cases fs <;> simp [eqChk] at h
 | .pair a b,x,cs,id,fs,he,hx=>by
  obtain ⟨c1,c2,rfl,x1,x2⟩:=hx
  have parts:∃ f gs,eqChk P a none f=true∧eqChk P b (some gs) 0=true:=by
   cases fs with
   | none =>
    simp only [eqChk] at he
    obtain ⟨de,hde,he⟩:=undChk_some he
    split at he
    ·rename_i fs
     simp only [Bool.and_eq_true] at he
     have h2:=he.2
     split at h2
     ·simp only [Bool.and_eq_true] at h2;exact ⟨_,_,h2.1.2,h2.2⟩
     ·cases h2
    ·cases he
   | some fs =>
    simp only [eqChk] at he
    split at he
    ·simp only [Bool.and_eq_true] at he;exact ⟨_,_,he.1.2,he.2⟩
    ·cases he
  obtain ⟨f,gs,p1,p2⟩:=parts
  intro c hc
  rcases List.mem_append.1 hc with hc | hc
  ·exact rel_prim a _ _ f none p1 x1 c hc
  ·exact rel_prim b _ _ 0 (some gs) p2 x2 c hc
 | .arr n t,x,cs,id,fs,he,hx=>by
  obtain ⟨l1,css,rfl,l2,h1⟩:=hx
  have part:∃ e,eqChk P t none e=true:=by
   cases fs with
   | none =>
    simp only [eqChk] at he
    obtain ⟨de,hde,he⟩:=undChk_some he
    split at he
    ·simp only [Bool.and_eq_true] at he;exact ⟨_,he.2⟩
    ·cases he
   | some fs=>simp [eqChk] at he
  obtain ⟨e,he⟩:=part
  intro c hc
  obtain ⟨l,hl,hc⟩:=List.mem_flatten.1 hc
  obtain ⟨i,hi,rfl⟩:=List.getElem_of_mem hl
  exact rel_prim t _ _ e none he (h1 i (by omega) hi) c hc
theorem key_stays {t:Ty} {id:TypeId} {x y:t.denote} {u v:Value} (he:eqChk P t none id=true) (h:eqv t x y=true) (hx:IsImm w N t x u) (hy:IsImm w N t y v):v=u∧Instr.sameBits 10000 v u=true:=by
 obtain ⟨cs,hx,rfl⟩:=hx
 obtain ⟨cs',hy,rfl⟩:=hy
 have e:=eq_same t x y cs cs' id none he h hx hy
 subst e
 refine ⟨rfl,?_⟩
 have hpr:=rel_prim t x cs id none he hx
 unfold valOf
 cases ha:t.isAgg with
 | true =>
  simp only [Instr.sameBits]
  simp only [BEq.rfl,Bool.true_and]
  clear ha hx hy h
  induction cs with
  | nil=>rfl
  | cons c cs ih =>
   simp only [List.zip_cons_cons,List.all_cons,Bool.and_eq_true]
   exact ⟨sb_one _ (hpr c (by simp)),ih (fun c hc=>hpr c (by simp [hc]))⟩
 | false =>
  obtain ⟨c,rfl⟩:=rel_single ha hx
  exact sb_one _ (hpr c (by simp))
def fndR (kt:Ty) (x:kt.denote):List kt.denote→List MapEntry→Nat→Option (Nat × Value)
 | k :: ks,e :: es,i=>cond (eqv kt x k) (some (i,e.val)) (fndR kt x ks es (i + 1))
 | _,_,_=>none
theorem fnd_asking (w':World) {kt:Ty} {kn:TypeId} (hk:tyChk P kt none kn=true) (he:eqChk P kt none kn=true) (hh:kt.high ≤ 9999) {x:kt.denote} {u:Value} (hx:IsImm w N kt x u):∀ (ks:List kt.denote) (es:List MapEntry) (i:Nat),es.length=ks.length →
 (∀ i (h:i < ks.length) (h':i < es.length),IsImm w N kt ks[i] es[i].key)→(Instr.findAsking kn u es i).run P w'=.ok (fndR kt x ks es i) w'
 | [],[],_,_,_=>by simp [Instr.findAsking,fndR]
 | k :: ks,e :: es,i,hl,h=>by
  obtain ⟨c1,h1,rfl⟩:=hx
  have h0:=h 0 (by simp) (by simp)
  simp only [List.getElem_cons_zero] at h0
  obtain ⟨c2,h2,e2⟩:=h0
  have heq:=(eq_run (w:=w) (N:=N) w' kt 9999 hh).1 kn c1 c2 x k hk he h1 h2
  have ih:=fnd_asking w' hk he hh ⟨c1,h1,rfl⟩ ks es (i + 1) (by simpa using hl) (fun i hi hi'=>h (i + 1) (by simpa using hi) (by simpa using hi'))
  simp only [Instr.findAsking,Sem.run_bind,Op.equal,Op.maxDepth,e2,fndR]
  rw [show (10000:Nat)=9999 + 1 from rfl,heq]
  simp only [Result.andThen_ok]
  cases eqv kt x k
  ·simpa using ih
  ·simp
 | [],_ :: _,_,h,_=>by simp at h
 | _ :: _,[],_,h,_=>by simp at h
theorem fnd_run (w':World) {kt:Ty} {kn:TypeId} (hk:tyChk P kt none kn=true) (he:eqChk P kt none kn=true) (hh:kt.high ≤ 9999) {x:kt.denote} {u:Value} (hx:IsImm w N kt x u) (ks:List kt.denote) (es:List MapEntry) (hl:es.length=ks.length)
 (h:∀ i (h:i < ks.length) (h':i < es.length),IsImm w N kt ks[i] es[i].key):(Instr.findKey kn u es).run P w'=.ok (fndR kt x ks es 0) w':=by
 have now:∀ (d:TypeDesc),P.underlying kn=some d→(∀ (k:kt.denote) (v:Value),IsImm w N kt k v→Instr.sameNow d u v=some (eqv kt x k))→(Instr.findKey kn u es).run P w'=.ok (fndR kt x ks es 0) w':=by
  intro d hd hs
  have:∀ (ks:List kt.denote) (es:List MapEntry) (i:Nat),es.length=ks.length→(∀ i (h:i < ks.length) (h':i < es.length),IsImm w N kt ks[i] es[i].key)→Instr.findNow d u es i=some (fndR kt x ks es i):=by
   intro ks
   induction ks with
   | nil=>intro es i hl _;cases es with
    | nil=>rfl
    | cons _ _=>simp at hl
   | cons k ks ih =>
    intro es i hl h
    cases es with
    | nil=>simp at hl
    | cons e es =>
     have h0:IsImm w N kt k e.key:=h 0 (by simp) (by simp)
     rw [Instr.findNow,hs _ _ h0]
     simp only [fndR]
     cases eqv kt x k with
     | true=>rfl
     | false=>exact ih es (i + 1) (by simpa using hl) (fun i hi hi'=>h (i + 1) (by simpa using hi) (by simpa using hi'))
  exact MapKept.run_findKey hd (this ks es 0 hl h)
 obtain ⟨cs,hx1,rfl⟩:=id hx
 cases kt with
 | int j =>
  refine now _ (tyChk_int hk) fun k v hv=>?_
  obtain ⟨c,hv,rfl⟩:=hv
  cases hv;cases hx1
  simp [valOf,Ty.isAgg,Instr.sameNow,eqv]
 | bool =>
  refine now _ (tyChk_bool hk) fun k v hv=>?_
  obtain ⟨c,hv,rfl⟩:=hv
  cases hv;cases hx1
  simp [valOf,Ty.isAgg,Instr.sameNow,eqv]
 | str =>
  refine now _ (tyChk_str hk) fun k v hv=>?_
  obtain ⟨c,hv,rfl⟩:=hv
  cases hv;cases hx1
  show some (_ == _)=some (strEq _ _)
  rw [beq_toListBytes];rfl
 | unit=>simp [eqChk] at he
 | opq=>simp [eqChk] at he
 | list u=>simp [eqChk] at he
 | pair p q =>
  obtain ⟨fs,hu,_⟩:=tyChk_struct hk (by simp) rfl
  rw [run_findKey_eq w' (by rw [hu])]
  exact fnd_asking w' hk he hh hx ks es 0 hl h
 | arr n u =>
  obtain ⟨e,hu,_⟩:=tyChk_arr hk
  rw [run_findKey_eq w' (by rw [hu])]
  exact fnd_asking w' hk he hh hx ks es 0 hl h
theorem fndR_spec {kt vt:Ty} (x:kt.denote):∀ (l:List (kt.denote × vt.denote)) (es:List MapEntry) (i:Nat),es.length=l.length →
 (fndR kt x (l.map (·.1)) es i=none∧hasM kt vt x l=false∧lookM kt vt x l=vt.zero∧∀ y,setM kt vt x y l=l ++ [(x,y)]) ∨
 (∃ j,∃ (h:j < l.length) (h':j < es.length),fndR kt x (l.map (·.1)) es i=some (i + j,es[j].val)∧hasM kt vt x l=true∧lookM kt vt x l=l[j].2∧eqv kt x l[j].1=true∧∀ y,setM kt vt x y l=l.set j (l[j].1,y))
 | [],[],_,_=>.inl ⟨rfl,rfl,rfl,fun _=>rfl⟩
 | p :: l,e :: es,i,hl=>by
  simp only [List.map_cons,fndR,hasM,lookM,setM]
  cases hq:eqv kt x p.1 with
  | true=>exact .inr ⟨0,by simp,by simp,rfl,rfl,rfl,hq,fun _=>rfl⟩
  | false =>
   rcases fndR_spec x l es (i + 1) (by simpa using hl) with ⟨h1,h2,h3,h4⟩ | ⟨j,h,h',h1,h2,h3,h5,h4⟩
   ·exact .inl ⟨h1,h2,h3,fun y=>by simp [cond,h4 y]⟩
   ·exact .inr ⟨j + 1,by simp;omega,by simp;omega,by simp [cond,h1];omega,h2,by simpa using h3,by simpa using h5,fun y=>by simp [cond,h4 y]⟩
 | [],_ :: _,_,h=>by simp at h
 | _ :: _,[],_,h=>by simp at h
theorem mapA_elim (hT:tabChk P T=true) (h:Sim G E fr hp a.tmps w β N) {t:TypeId} {m:SV} {u:Value} {k:(q:MapT)→Nat→List (q.kt.denote × q.vt.denote)→U P G} (hr:run (mapA T t m k) fr hp=some r) (hv:VR β hp w N m u) :
 ∃ q id l es c,MapOk P t q∧nth hp id=.mp q.kt q.vt l∧u=.map (some (β id).blk)∧w.heap[(β id).blk]?=some (.map es c)∧es.size=l.length∧(∀ i (h:i < l.length) (h':i < es.size),IsImm w N q.kt l[i].1 es[i].key∧IsImm w N q.vt l[i].2 es[i].val)∧(∀ o,¬ N (β id).blk o)∧run (k q id l) fr hp=some r:=by
 unfold mapA at hr
 obtain ⟨q,hq,hr⟩:=tyM_elim hT hr
 cases m with
 | mph id =>
  obtain ⟨h1,h2,h3⟩:=(hv:nth hp id ≠ .none∧(∃ r,u=.map (some r))∧∀ kt vt l,nth hp id=.mp kt vt l→u=.map (some (β id).blk))
  simp only [run,if_true] at hr
  split at hr
  ·rename_i kt vt l hm
   obtain ⟨et,hr⟩:=castA_elim hr
   have e1:kt=q.kt:=by cases et;rfl
   have e2:vt=q.vt:=by cases et;rfl
   subst e1
   subst e2
   have hb:=h.box id
   rw [hm] at hb
   obtain ⟨⟨es,c,k1,k2,k3⟩,k4⟩:=hb
   exact ⟨q,id,l,es,c,hq,hm,h3 _ _ _ hm,k1,k2,k3,k4,hr⟩
  ·exact fail_elim hr
 | _=>exact fail_elim hr
theorem op_makeMap (hT:tabChk P T=true) {t:TypeId} (ho:o.op=.makeMap t none) (h:Sim G E fr hp a.tmps w β N)
 (hr:run (tyM T t fun q=>(match o.dst with
  | some d=>.rd true d fun b=>(match b with | .none=>wrB d (.mp q.kt q.vt []) (setD o.dst (.mph d) (.pure ())) | _=>.fail)
  | none=>.fail):U P G) fr hp=some r):Does P o a w (After G E a r):=by
 obtain ⟨q,hq,hr⟩:=tyM_elim hT hr
 cases hd:o.dst with
 | none=>rw [hd] at hr;exact fail_elim hr
 | some d =>
  rw [hd] at hr
  simp only [run,if_true] at hr
  split at hr
  ·rename_i hn
   obtain ⟨hin,hr⟩:=wrB_elim hr (by simp)
   let x:BI:=⟨w.heap.size,.tuple #[],.opq⟩
   have hE:Ext w N (w.alloc (.map #[] 0)) N:=ext_alloc w _ h.ok
   have hno:∀ g,blkOf β hp d ≠ some g:=fun g hg=>by unfold blkOf at hg;rw [hn] at hg;cases hg
   have ht:Turn β hp w N d x (.mp q.kt q.vt []) (w.alloc (.map #[] 0)) N:=by
    refine ⟨hin,by simp,.inl hn,hE,fun i _ g hg=>⟨Below.heap_alloc w _ g (h.bnd _ _ hg).1,fun _ ho=>ho⟩,fun g hg=>?_,fun k hk _=>Below.heap_alloc w _ k hk,rfl,rfl,rfl,by rw [size_alloc];omega,fun c o ho=>.inl ho,fun c o ho=>by rw [size_alloc];have:=h.ok c o ho;omega⟩
    cases hg
    exact ⟨.inr (Nat.le_refl _),by rw [size_alloc];exact Nat.lt_succ_self _⟩
   have hs:=h.turn ht (by
    refine ⟨⟨#[],0,by rw [upd_eq];exact heap_new w _,rfl,fun i hi=>by cases hi⟩,fun o ho=>?_⟩
    rw [upd_eq] at ho
    exact Nat.lt_irrefl _ (h.ok _ _ ho))
   refine does_val (u:=.map (some w.heap.size)) (w':=w.alloc (.map #[] 0)) ?_ hs ?_ (by rw [hd];exact hr)
   ·unfold execOp;rw [ho]
    simp [Instr.makeMap]
   ·exact (⟨by rw [nth_put_eq _ _ _ hin];simp,⟨_,rfl⟩,fun _ _ _ _=>by rw [upd_eq]⟩:nth (put hp d (.mp q.kt q.vt [])) d ≠ .none∧(∃ r,Value.map (some w.heap.size)=.map (some r))∧∀ kt vt l,nth (put hp d (.mp q.kt q.vt [])) d=.mp kt vt l→Value.map (some w.heap.size)=.map (some (upd β d x d).blk))
  ·exact fail_elim hr
theorem op_lookup (hT:tabChk P T=true) {t:TypeId} {m x:Operand} {ok:Bool} (ho:o.op=.lookup t m x ok) (h:Sim G E fr hp a.tmps w β N)
 (hr:run (rdO m fun m=>rdO x fun x=>mapA T t m fun q _ l=>immA q.kt x fun x=>cond ok (setD o.dst (.tup [.imm q.vt (lookM q.kt q.vt x l),.imm .bool (hasM q.kt q.vt x l)]) (.pure ()))
  (setD o.dst (.imm q.vt (lookM q.kt q.vt x l)) (.pure ())):U P G) fr hp=some r):Does P o a w (After G E a r):=by
 obtain ⟨vm,hm,hr⟩:=rdO_elim h hr
 obtain ⟨vx,hx,hr⟩:=rdO_elim h hr
 obtain ⟨q,id,l,es,c,hq,hid,em,h1,h2,h3,h4,hr⟩:=mapA_elim hT h hr hm
 obtain ⟨hp',N',x',g,hx',hr⟩:=immA_elim h hr hx
 have hck:∀ em' w',(Instr.checkKey em' 10000 q.kn (a.eval x)).run P w'=.ok () w':=fun em' w'=>by
  obtain ⟨cs,k1,k2⟩:=hx'
  rw [k2]
  exact ck_run em' w' 9999 q.kt (by have:=hq.high;omega) q.kn cs x' hq.kty hq.keq k1
 have hfnd:=fnd_run w hq.kty hq.keq (by have:=hq.high;omega) hx' (l.map (·.1)) es.toList (by simp [h2]) (fun i hi hi'=>by
  have:=(h3 i (by simpa using hi) (by simpa using hi')).1.ext g.ext
  simpa using this)
 obtain ⟨i,z,hi⟩:=tyChk_info hq.vty
 have hz1:(zeroValue q.vn).run P w=.ok z w:=by simp [zeroValue,typeInfo,hi.info,hi.zero]
 have hz2:=hi.zok
 have hz3:=hq.vz i z hi.info hi.zero
 have hzi:IsImm w N' q.vt q.vt.zero z:=by
  have hzr:=zrel w N' q.vt _ hz2
  refine ⟨_,hzr,?_⟩
  unfold valOf
  cases ha:q.vt.isAgg with
  | true =>
   obtain ⟨cs,rfl⟩:=hz3.1 ha
   rfl
  | false =>
   rw [one_cells (hz3.2 ha)];rfl
 have val:∃ v,(execOp a.eval o).run P w=.ok (.value (if ok then .tuple #[v,.bool (hasM q.kt q.vt x' l)] else v)) w∧IsImm w N' q.vt (lookM q.kt q.vt x' l) v:=by
  rcases fndR_spec (vt:=q.vt) x' l es.toList 0 (by simp [h2]) with ⟨k1,k2,k3,_⟩ | ⟨j,hj,hj',k1,k2,k3,_,_⟩
  ·refine ⟨z,?_,by rw [k3];exact hzi⟩
   unfold execOp
   rw [ho]
   simp only [Instr.lookup,Sem.run_bind,run_underlying hq.und,Result.andThen_ok,em,run_getObj_map _ _ _ _ h1,Sem.run_pure,hck,hfnd,k1,hz1,k2]
  ·refine ⟨_,?_,by rw [k3];exact (h3 j hj (by simpa using hj')).2.ext g.ext⟩
   unfold execOp
   rw [ho]
   simp only [Instr.lookup,Sem.run_bind,run_underlying hq.und,Result.andThen_ok,em,run_getObj_map _ _ _ _ h1,Sem.run_pure,hck,hfnd,k1,k2,Array.getElem_toList]
 obtain ⟨v,v1,v2⟩:=val
 cases ok with
 | true =>
  refine does_val v1 g.sim ?_ hr
  refine ⟨[v,.bool (hasM q.kt q.vt x' l)],by simp,rfl,fun i hi=>?_⟩
  match i,hi with
  | 0,_=>exact v2
  | 1,_=>exact (⟨[.bool _],rfl,rfl⟩:IsImm w N' .bool (hasM q.kt q.vt x' l) (.bool (hasM q.kt q.vt x' l)))
 | false=>exact does_val (v:=.imm q.vt (lookM q.kt q.vt x' l)) (u:=v) v1 g.sim v2 hr
theorem setM_at {kt vt:Ty} {y:vt.denote} {l:List (kt.denote × vt.denote)} {es:Array MapEntry} {u v:Value} {c:Nat} {j:Nat} (hj:j < l.length) (hy:IsImm w N vt y v) (hl:es.size=l.length)
 (h:∀ i (h:i < l.length) (h':i < es.size),IsImm w N kt l[i].1 es[i].key∧IsImm w N vt l[i].2 es[i].val) (hk:IsImm w N kt l[j].1 u) {b:Nat} {w':World} (hw:w'.heap[b]?=some (.map (es.modify j fun e=>{ e with key:=u,val:=v }) c)) (hE:Ext w N w' N) (hN:∀ o,¬ N b o) :
 MapAt w' N kt vt (l.set j (l[j].1,y)) b:=by
 refine ⟨⟨_,c,hw,by simp [hl],fun i hi hi'=>?_⟩,hN⟩
 simp only [List.length_set] at hi
 have hi2:i < es.size:=by omega
 rw [Array.getElem_modify]
 by_cases e:j=i
 ·subst e
  simp only [if_true,List.getElem_set_self]
  exact ⟨hk.ext hE,hy.ext hE⟩
 ·simp only [if_neg e,List.getElem_set_ne e]
  exact ⟨(h i hi hi2).1.ext hE,(h i hi hi2).2.ext hE⟩
theorem op_mapUpdate (hT:tabChk P T=true) {t:TypeId} {m x y:Operand} (ho:o.op=.mapUpdate t m x y ∨ o.op=.insert t m x y) (h:Sim G E fr hp a.tmps w β N)
 (hr:run (rdO m fun m=>rdO x fun x=>rdO y fun y=>mapUpA T t m x y (setD o.dst (.tup []) (.pure ())):U P G) fr hp=some r):Does P o a w (After G E a r):=by
 obtain ⟨vm,hm,hr⟩:=rdO_elim h hr
 obtain ⟨vx,hx,hr⟩:=rdO_elim h hr
 obtain ⟨vy,hy,hr⟩:=rdO_elim h hr
 unfold mapUpA at hr
 obtain ⟨q,id,l,es,c,hq,hid,em,h1,h2,h3,h4,hr⟩:=mapA_elim hT h hr hm
 obtain ⟨hp1,N1,x',g1,hx',hr⟩:=immA_elim h hr hx
 obtain ⟨hp2,N2,y',g2,hy',hr⟩:=immA_elim g1.sim hr (VR.later g1.later g1.ext hy)
 have g:=g1.trans g2
 have hx':=hx'.ext g2.ext
 have hid2:nth hp2 id=.mp q.kt q.vt l:=by
  rcases g.shd id with k | ⟨v',s',e',t',xs',k1,_⟩
  ·rw [k];exact hid
  ·rw [hid] at k1;cases k1
 have hin:id < hp2.length:=nth_in (by rw [hid2];simp)
 have h3':∀ i (h:i < l.length) (h':i < es.size),IsImm w N2 q.kt l[i].1 es[i].key∧IsImm w N2 q.vt l[i].2 es[i].val:=fun i hi hi'=>⟨(h3 i hi hi').1.ext g.ext,(h3 i hi hi').2.ext g.ext⟩
 have hN2:∀ o,¬ N2 (β id).blk o:=by
  have hb:=g.sim.box id
  rw [hid2] at hb
  exact hb.2
 have hck:∀ em' w',(Instr.checkKey em' 10000 q.kn (a.eval x)).run P w'=.ok () w':=fun em' w'=>by
  obtain ⟨cs,k1,k2⟩:=hx'
  rw [k2]
  exact ck_run em' w' 9999 q.kt (by have:=hq.high;omega) q.kn cs x' hq.kty hq.keq k1
 have hfnd:=fnd_run w hq.kty hq.keq (by have:=hq.high;omega) hx' (l.map (·.1)) es.toList (by simp [h2]) (fun i hi hi'=>by
  have:=(h3' i (by simpa using hi) (by simpa using hi')).1
  simpa using this)
 have hblk:blkOf β hp2 id=some (β id).blk:=by unfold blkOf;rw [hid2];rfl
 -- the world behind
 have main:∀ (es':Array MapEntry) (c':Nat) (l':List (q.kt.denote × q.vt.denote)),(∀ w',w'.heap[(β id).blk]?=some (.map es' c')→Ext w N2 w' N2→MapAt w' N2 q.kt q.vt l' (β id).blk) →
  (execOp a.eval o).run P w=.ok .skip { w with heap:=w.heap.setIfInBounds (β id).blk (.map es' c') }→setM q.kt q.vt x' y' l=l'→Does P o a w (After G E a r):=by
  intro es' c' l' hat hrun hl'
  obtain ⟨hw1,hw2⟩:=MapKept.heap_set (o':=.map es' c') h1
  have hE:Ext w N2 { w with heap:=w.heap.setIfInBounds (β id).blk (.map es' c') } N2:=fun b o hb=>⟨hb,by
   unfold World.cell?
   simp only
   rw [hw2 b (fun e=>by subst e;exact hN2 o hb)]⟩
  have ht:Turn β hp2 w N2 id (β id) (.mp q.kt q.vt l') { w with heap:=w.heap.setIfInBounds (β id).blk (.map es' c') } N2:=by
   refine ⟨hin,by simp,.inr (.inr ⟨by rw [hid2];rfl,rfl,fun p=>by rw [hid2];rfl,by rw [hid2];rfl⟩),hE,fun i hi gg hg=>⟨hw2 gg (fun e=>?_),fun _ ho=>ho⟩,fun gg hg=>?_,fun k hk hk2=>hw2 k (fun e=>?_),rfl,rfl,rfl,by simp,fun c o ho=>.inl ho,fun c o ho=>by simpa using g.sim.ok c o ho⟩
   ·subst e;exact hi (g.sim.apart _ _ _ hg hblk)
   ·cases hg;exact ⟨.inl hblk,by simpa using (g.sim.bnd _ _ hblk).1⟩
   ·subst e;exact hk2 hblk
  have hs:=g.sim.turn ht (by rw [upd_self];exact hat _ hw1 hE)
  rw [upd_self] at hs
  rw [hl'] at hr
  exact does_skip hrun hs hr
 rcases fndR_spec (vt:=q.vt) x' l es.toList 0 (by simp [h2]) with ⟨k1,_,_,k4⟩ | ⟨j,hj,hj',k1,_,_,k3,k4⟩
 ·refine main (es.push { key:=a.eval x,val:=a.eval y,born:=c }) (c + 1) (l ++ [(x',y')]) (fun w' hw' hE=>?_) ?_ (k4 y')
  ·refine ⟨⟨_,_,hw',by simp [h2],fun i hi hi'=>?_⟩,hN2⟩
   rw [List.getElem_append,Array.getElem_push]
   by_cases e:i < l.length
   ·rw [dif_pos e,dif_pos (by omega)]
    exact ⟨(h3' i e (by omega)).1.ext hE,(h3' i e (by omega)).2.ext hE⟩
   ·rw [dif_neg e,dif_neg (by omega)]
    simp only [List.getElem_singleton]
    exact ⟨hx'.ext hE,hy'.ext hE⟩
  ·unfold execOp
   rcases ho with ho | ho <;> rw [ho] <;> simp only [Instr.mapUpdate,Sem.run_bind,run_underlying hq.und,Result.andThen_ok,em,run_getObj_map _ _ _ _ h1,Sem.run_pure,hck,hfnd,k1,MapKept.run_setObj_map _ h1]
 ·have hj2:j < es.size:=by simpa using hj'
  have hkj:=(h3' j hj hj2).1
  obtain ⟨ek,sb⟩:=key_stays hq.keq k3 hx' hkj
  refine main (es.modify j fun e=>{ e with key:=a.eval x,val:=a.eval y }) c (l.set j (l[j].1,y')) (fun w' hw' hE=>setM_at hj hy' h2 h3' (by rw [← ek];exact hkj) hw' hE hN2) ?_ (k4 y')
  have hstay:(Instr.keyThatStays (((es[j]?).map (·.key)).getD (a.eval x)) (a.eval x)).run P w=.ok (a.eval x) w:=by
   have e1:((es[j]?).map (·.key)).getD (a.eval x)=a.eval x:=by simp [hj2,ek]
   rw [e1]
   rw [ek] at sb
   simp [Instr.keyThatStays,sb]
  unfold execOp
  simp only [Nat.zero_add] at k1
  rcases ho with ho | ho <;> rw [ho] <;> simp only [Instr.mapUpdate,Sem.run_bind,run_underlying hq.und,Result.andThen_ok,em,run_getObj_map _ _ _ _ h1,Sem.run_pure,hck,hfnd,k1,hstay,MapKept.run_setObj_map _ h1]
end Ev
end Go.Proofs.YtlfcdmibknmjeaaGreatDoor
namespace Go.Proofs.YtlfcdmibknmjeaaGreatDoor
namespace Ev
open Go Go.RowKit
variable {P:Program} {G:List GV} {E:Entry} {fr hp:List SV} {w:World} {β:Nat→BI} {N:Reg} {r:Unit × List SV × List SV} {a:Act} {o:Oper} {T:Tab}
theorem op_callAny (hT:tabChk P T=true) {env:List (Kn P G)} {nt nh:Nat} {dst:Option Tmp} {c:Call} {ty:TypeId} {pos:String} {after:Array Edge} {guard:Option (Nat × Bool)} (h:Sim G E fr hp a.tmps w β N)
 (hr:run (opA T env nt nh ⟨dst,.call c,ty,pos,after,guard⟩) fr hp=some r):Does P ⟨dst,.call c,ty,pos,after,guard⟩ a w (After G E a r):=by
 obtain ⟨c,args,tys⟩:=c
 cases c with
 | value f=>exact op_call env nt nh (o:=⟨dst,.call ⟨.value f,args,tys⟩,ty,pos,after,guard⟩) rfl h hr
 | invoke x n=>exact fail_elim hr
 | builtin b =>
  obtain ⟨args⟩:=args
  obtain ⟨tys⟩:=tys
  cases b with
  | len =>
   match args,tys,hr with
   | [x],[t],hr=>exact op_len hT (o:=⟨dst,.call ⟨.builtin .len,#[x],#[t]⟩,ty,pos,after,guard⟩) rfl h hr
   | [],_,hr=>exact fail_elim hr
   | _ :: _ :: _,_,hr=>exact fail_elim hr
   | [_],[],hr=>exact fail_elim hr
   | [_],_ :: _ :: _,hr=>exact fail_elim hr
  | min =>
   match args,hr with
   | [x,y],hr=>exact op_min (o:=⟨dst,.call ⟨.builtin .min,#[x,y],⟨tys⟩⟩,ty,pos,after,guard⟩) rfl h hr
   | [],hr=>exact fail_elim hr
   | [_],hr=>exact fail_elim hr
   | _ :: _ :: _ :: _,hr=>exact fail_elim hr
  | max =>
   match args,hr with
   | [x,y],hr=>exact op_max (o:=⟨dst,.call ⟨.builtin .max,#[x,y],⟨tys⟩⟩,ty,pos,after,guard⟩) rfl h hr
   | [],hr=>exact fail_elim hr
   | [_],hr=>exact fail_elim hr
   | _ :: _ :: _ :: _,hr=>exact fail_elim hr
  | append =>
   match args,hr with
   | [],hr=>exact fail_elim hr
   | [_],hr=>exact fail_elim hr
   | _ :: _ :: _ :: _,hr=>exact fail_elim hr
   | [x,y],hr =>
    match tys,hr with
    | [t,t'],hr=>exact op_append hT (o:=⟨dst,.call ⟨.builtin .append,#[x,y],#[t,t']⟩,ty,pos,after,guard⟩) rfl h hr
    | [],hr=>obtain ⟨_,_,hr⟩:=rdO_elim h hr;obtain ⟨_,_,hr⟩:=rdO_elim h hr;exact fail_elim hr
    | [_],hr=>obtain ⟨_,_,hr⟩:=rdO_elim h hr;obtain ⟨_,_,hr⟩:=rdO_elim h hr;exact fail_elim hr
    | _ :: _ :: _ :: _,hr=>obtain ⟨_,_,hr⟩:=rdO_elim h hr;obtain ⟨_,_,hr⟩:=rdO_elim h hr;exact fail_elim hr
  | copy =>
   match args,hr with
   | [],hr=>exact fail_elim hr
   | [_],hr=>exact fail_elim hr
   | _ :: _ :: _ :: _,hr=>exact fail_elim hr
   | [x,y],hr =>
    match tys,hr with
    | [t,t'],hr=>exact op_copy hT (o:=⟨dst,.call ⟨.builtin .copy,#[x,y],#[t,t']⟩,ty,pos,after,guard⟩) rfl h hr
    | [],hr=>exact fail_elim hr
    | [_],hr=>exact fail_elim hr
    | _ :: _ :: _ :: _,hr=>exact fail_elim hr
  | _=>exact fail_elim hr
theorem op_sound (hT:tabChk P T=true) {env:List (Kn P G)} {nt nh:Nat} (h:Sim G E fr hp a.tmps w β N) (hr:run (opA T env nt nh o) fr hp=some r):Does P o a w (After G E a r):=by
 obtain ⟨dst,op,type,pos,after,guard⟩:=o
 cases op
 case move x=>exact op_move (.inl rfl) h hr
 case assign x=>exact op_assign rfl h hr
 case makeFunc fn first captured=>cases fn with
  | func f=>cases first with
   | mk l=>cases l with
    | nil=>exact op_makeFunc rfl h hr
    | cons x l=>exact fail_elim hr
  | _=>exact fail_elim hr
 case pick c x y=>cases c with
  | tmp i=>exact op_pick rfl h hr
  | _=>exact fail_elim hr
 case binOp=>exact op_bin hT rfl h hr
 case unOp op ty x=>cases op <;> exact op_un rfl h hr
 case convert=>exact op_convert hT rfl h hr
 case nilCheck=>exact op_nilCheck rfl h hr
 case extract=>exact op_extract rfl h hr
 case alloc=>exact op_alloc hT rfl h hr
 case box=>exact op_box hT rfl h hr
 case build ty ps =>
  obtain ⟨hf,hr⟩:=cond_fail hr
  obtain ⟨t,ht,hr⟩:=tyA_elim hT hr
  cases t with
  | arr n u=>exact op_buildA rfl ht hf h hr
  | _=>exact op_buildS rfl ht (by intro n u h;cases h) hf h hr
 case buildSlice=>exact op_buildSlice hT rfl h hr
 case load=>exact op_load hT rfl h hr
 case store=>exact op_store hT rfl h hr
 case fieldAddr=>exact op_fieldAddr hT rfl h hr
 case field=>exact op_field hT rfl h hr
 case indexAddr=>exact op_indexAddr hT rfl h hr
 case index=>exact op_index hT rfl h hr
 case slice ty x lo hi mx=>cases mx with
  | none=>exact op_slice hT rfl h hr
  | some m=>exact fail_elim hr
 case makeSlice=>exact op_makeSlice hT rfl h hr
 case call c=>exact op_callAny hT h hr
 case makeMap t r=>cases r with
  | none=>exact op_makeMap hT rfl h hr
  | some m=>exact fail_elim hr
 case lookup=>exact op_lookup hT rfl h hr
 case mapUpdate=>exact op_mapUpdate hT (.inl rfl) h hr
 case insert=>exact op_mapUpdate hT (.inr rfl) h hr
 all_goals exact fail_elim hr
end Ev
end Go.Proofs.YtlfcdmibknmjeaaGreatDoor
namespace Go.Proofs.YtlfcdmibknmjeaaGreatDoor
namespace Ev
open Go Go.RowKit
variable {P:Program} {G:List GV} {E:Entry} {fr hp:List SV} {w:World} {β:Nat→BI} {N:Reg} {r:Unit × List SV × List SV} {a:Act} {o:Oper} {T:Tab}
def Takes (P:Program) (ops:Array Oper) (o:Oper) (a:Act) (w:World) (R:Act→World→Prop):Prop:=∀ (next:Act→World→Prop) (Q:Exit→Act→World→Prop),(∀ a' w',R a' w'→next a' w') →
 if Region.wanted o (yielded ops a.tmps) then o.wp P a w next Q ∨ (o.asks P a w∧LetsOut Q) else next (a.put o.dst undef) w
theorem takes_wanted {ops:Array Oper} {R:Act→World→Prop} (hw:Region.wanted o (yielded ops a.tmps)=true) (h:Does P o a w R):Takes P ops o a w R:=fun next Q hn=>by
 rw [if_pos hw];exact .inl (h next Q hn)
theorem takes_skip {ops:Array Oper} (hw:Region.wanted o (yielded ops a.tmps)=false) (h:Sim G E fr hp a.tmps w β N) (hr:run (setD o.dst (.tup []) (.pure ()):U P G) fr hp=some r):Takes P ops o a w (After G E a r):=fun next Q hn=>by
 rw [if_neg (by rw [hw];simp)]
 refine hn _ _ ⟨put_defers _ _ _,β,N,?_⟩
 obtain ⟨e1,e2⟩:=setD_run hr
 rw [e1,e2]
 exact h.dst _ (sv:=.tup []) ⟨[],rfl,rfl,fun i hi=>by cases hi⟩
theorem oper_sound (hT:tabChk P T=true) {env:List (Kn P G)} {nt nh:Nat} {ops:Array Oper} (h:Sim G E fr hp a.tmps w β N) (hr:run (operA T env nt nh ops o) fr hp=some r):Takes P ops o a w (After G E a r):=by
 unfold operA guardA at hr
 cases hg:o.guard with
 | none =>
  rw [hg] at hr
  exact takes_wanted (by simp [Region.wanted,hg]) (op_sound hT h hr)
 | some jw =>
  obtain ⟨j,want⟩:=jw
  rw [hg] at hr
  simp only at hr
  cases hd:(ops[j]?).bind (·.dst) with
  | none=>rw [hd] at hr;exact fail_elim hr
  | some d =>
   rw [hd] at hr
   simp only [run] at hr
   have hs:=h.slot d
   have hy:∀ b,a.tmps.getD d undef=.bool b→yielded ops a.tmps j=some b:=by
    intro b hb
    unfold yielded
    rw [hd]
    simp only [Option.bind_some]
    have:a.tmps[d]?=some (.bool b):=by
     rw [Array.getD_eq_getD_getElem?] at hb
     cases h2:a.tmps[d]? with
     | none=>rw [h2] at hb;cases hb
     | some v=>rw [h2] at hb;simp at hb;rw [hb]
    rw [this]
   split at hr
   ·rename_i b hb
    rw [hb] at hs
    have hyb:=hy b (vbool hs)
    cases b <;> cases want
    ·exact takes_wanted (by simp [Region.wanted,hg,hyb]) (op_sound hT h hr)
    ·exact takes_skip (by simp [Region.wanted,hg,hyb]) h hr
    ·exact takes_skip (by simp [Region.wanted,hg,hyb]) h hr
    ·exact takes_wanted (by simp [Region.wanted,hg,hyb]) (op_sound hT h hr)
   ·rename_i hb
    rw [hb] at hs
    obtain ⟨us,e1,e2,_⟩:=hs
    have hu:us=[]:=List.eq_nil_of_length_eq_zero e2
    subst hu
    have hyn:yielded ops a.tmps j=none:=by
     unfold yielded
     rw [hd]
     simp only [Option.bind_some]
     rw [Array.getD_eq_getD_getElem?] at e1
     cases h2:a.tmps[d]? with
     | none=>rfl
     | some v=>rw [h2] at e1;simp at e1;rw [e1]
    exact takes_skip (by simp [Region.wanted,hg,hyn]) h hr
   ·cases hr
def opsR (T:Tab) (env:List (Kn P G)) (nt nh:Nat) (ops:Array Oper):List Oper→List SV→List SV→Option (List SV × List SV)
 | [],fr,hp=>some (fr,hp)
 | o :: l,fr,hp=>(run (operA T env nt nh ops o) fr hp).bind fun r=>opsR T env nt nh ops l r.2.1 r.2.2
theorem opsK_eq {γ:Type} {env:List (Kn P G)} {nt nh:Nat} {ops:Array Oper} (K:List SV→List SV→Option γ):∀ (l:List Oper) (fr hp:List SV),opsK T env nt nh ops l fr hp K=(opsR T env nt nh ops l fr hp).bind fun r=>K r.1 r.2
 | [],fr,hp=>rfl
 | o :: l,fr,hp=>by
  simp only [opsK,opsR,runK_eq]
  cases run (operA T env nt nh ops o) fr hp with
  | none=>rfl
  | some r=>exact opsK_eq K l _ _
def Ends (G:List GV) (E:Entry) (d:List Deferred) (fr hp:List SV) (a:Act) (w:World):Prop:=a.defers=d∧∃ β N,Sim G E fr hp a.tmps w β N
theorem ops_sound (hT:tabChk P T=true) {env:List (Kn P G)} {nt nh:Nat} {ops:Array Oper} {Q:Exit→Act→World→Prop} {d:List Deferred} {f2 h2:List SV} (hQ:∀ a w,Ends G E d f2 h2 a w→Q .normal a w) :
 ∀ (l:List Oper) (fr hp:List SV) (a:Act) (w:World),Ends G E d fr hp a w→opsR T env nt nh ops l fr hp=some (f2,h2)→wpList P ops Q l a w
 | [],fr,hp,a,w,h,hr=>by
  cases hr
  exact hQ a w h
 | o :: l,fr,hp,a,w,⟨hd,β,N,h⟩,hr=>by
  simp only [opsR] at hr
  cases h1:run (operA T env nt nh ops o) fr hp with
  | none=>rw [h1] at hr;cases hr
  | some r =>
   rw [h1] at hr
   exact oper_sound hT h h1 (wpList P ops Q l) Q fun a' w' ⟨hd',β',N',h'⟩=>ops_sound hT hQ l r.2.1 r.2.2 a' w' ⟨hd'.trans hd,β',N',h'⟩ hr
end Ev
end Go.Proofs.YtlfcdmibknmjeaaGreatDoor
namespace Go.Proofs.YtlfcdmibknmjeaaGreatDoor
namespace Ev
open Go Go.RowKit
variable {P:Program} {G:List GV} {α:Type}
def has (m i:Nat):Prop:=Nat.testBit m i=true
theorem has_bit {m i j:Nat}:has (bitN m i) j ↔ has m j ∨ j=i:=by
 unfold has bitN
 have e:Nat.lor m (Nat.shiftLeft 1 i)=m ||| (1 <<< i):=rfl
 rw [e,Nat.testBit_or,Nat.one_shiftLeft,Nat.testBit_two_pow]
 simp only [Bool.or_eq_true,decide_eq_true_eq]
 exact ⟨fun h=>h.imp_right Eq.symm,fun h=>h.imp_right Eq.symm⟩
theorem has_lor {m n j:Nat}:has (Nat.lor m n) j ↔ has m j ∨ has n j:=by
 unfold has
 have e:Nat.lor m n=m ||| n:=rfl
 rw [e,Nat.testBit_or]
 simp
theorem land_zero {m n:Nat} (h:Nat.beq (Nat.land m n) 0=true) (j:Nat):has m j→has n j→False:=by
 intro h1 h2
 have e:m &&& n=0:=Nat.eq_of_beq_eq_true h
 have:(m &&& n).testBit j=true:=by rw [Nat.testBit_and,h1,h2];rfl
 rw [e] at this
 simp at this
abbrev St:=List SV × List SV
def St.at (s:St) (b:Bool) (i:Nat):SV:=nth (cond b s.2 s.1) i
def St.set (s:St) (b:Bool) (i:Nat) (v:SV):St:=cond b (s.1,put s.2 i v) (put s.1 i v,s.2)
def loc (b:Bool) (i:Nat):Nat:=cond b (2 * i + 1) (2 * i)
def St.same (s s2:St):Prop:=s2.1.length=s.1.length∧s2.2.length=s.2.length
theorem St.set_same (s s2:St) (b:Bool) (i:Nat) (v:SV) (h:s.same s2):(s.set b i v).same (s2.set b i v):=by
 cases b <;> simp [St.set,St.same,len_put] <;> exact h
theorem St.same_set (s:St) (b:Bool) (i:Nat) (v:SV):s.same (s.set b i v):=by
 cases b <;> simp [St.set,St.same,len_put]
theorem St.at_ne (s:St) {b b':Bool} {i i':Nat} (v:SV) (h:¬ (b'=b∧i'=i)):(s.set b i v).at b' i'=s.at b' i':=by
 cases b <;> cases b' <;> simp only [St.set,St.at,cond]
 ·exact nth_put_ne _ _ _ _ (fun e=>h ⟨rfl,e.symm⟩)
 ·exact nth_put_ne _ _ _ _ (fun e=>h ⟨rfl,e.symm⟩)
theorem St.at_eq (s s2:St) (b:Bool) (i:Nat) (v:SV) (h:s.same s2):(s2.set b i v).at b i=(s.set b i v).at b i:=by
 have key:∀ (x y:List SV),x.length=y.length→nth (put x i v) i=nth (put y i v) i:=by
  intro x y hl
  rcases Nat.lt_or_ge i y.length with h' | h'
  ·rw [nth_put_eq _ _ _ (by omega),nth_put_eq _ _ _ h']
  ·rw [nth_far _ _ (by rw [len_put];omega),nth_far _ _ (by rw [len_put];omega)]
 cases b <;> simp only [St.set,St.at,cond]
 ·exact key _ _ h.1
 ·exact key _ _ h.2
theorem nth_ext:∀ (xs ys:List SV),xs.length=ys.length→(∀ i,nth xs i=nth ys i)→xs=ys
 | [],[],_,_=>rfl
 | [],_ :: _,h,_=>by simp at h
 | _ :: _,[],h,_=>by simp at h
 | x :: xs,y :: ys,h,k=>by
  have h0:x=y:=k 0
  rw [h0,nth_ext xs ys (by simpa using h) (fun i=>k (i + 1))]
theorem St.ext {s s2:St} (h:s.same s2) (k:∀ b i,s2.at b i=s.at b i):s2=s:=by
 obtain ⟨a,b⟩:=s
 obtain ⟨a2,b2⟩:=s2
 have h1:a2=a:=nth_ext _ _ h.1 (fun i=>k false i)
 have h2:b2=b:=nth_ext _ _ h.2 (fun i=>k true i)
 rw [h1,h2]
def runW:Acc P G α→St→Nat→Nat→Option (α × St × Nat × Nat)
 | .pure a,s,R,W=>some (a,s,R,W)
 | .fail,_,_,_=>none
 | .rd b i k,s,R,W=>runW (k (s.at b i)) s (bitN R (loc b i)) W
 | .wr b i v k,s,R,W=>runW k (s.set b i v) R (bitN W (loc b i))
 | .br c x y,s,R,W=>if c then runW x s R W else runW y s R W
 | .bs i x y u,s,R,W=>match s.at false i with
  | .imm .bool b=>if b then runW x s (bitN R (loc false i)) W else runW y s (bitN R (loc false i)) W
  | .tup []=>runW u s (bitN R (loc false i)) W
  | _=>none
 | .ask e x k,s,R,W=>(e.f x).bind fun y=>elimS e.outs y fun sg y=>runW (k sg y) s R W
theorem runF_eq {γ:Type}:∀ (m:Acc P G α) (fr hp:List SV) (R W:Nat) (K:α→List SV→List SV→Nat→Nat→Option γ),runF m fr hp R W K=(runW m (fr,hp) R W).bind fun r=>K r.1 r.2.1.1 r.2.1.2 r.2.2.1 r.2.2.2
 | .pure a,fr,hp,R,W,K=>rfl
 | .fail,_,_,_,_,_=>rfl
 | .rd b i k,fr,hp,R,W,K=>by
  cases b <;> simp only [runF,runW,nthK_eq,forceN_eq] <;> exact runF_eq _ _ _ _ _ _
 | .wr b i v k,fr,hp,R,W,K=>by
  cases b <;> simp only [runF,runW,putK_eq,forceN_eq] <;> exact runF_eq _ _ _ _ _ _
 | .br c x y,fr,hp,R,W,K=>by cases c <;> simp only [runF,runW,cond] <;> exact runF_eq _ _ _ _ _ _
 | .bs i x y u,fr,hp,R,W,K=>by
  simp only [runF,runW,nthK_eq,putK_eq,forceN_eq]
  have hp0:=put_nth fr i
  have e:St.at (fr,hp) false i=nth fr i:=rfl
  rw [e]
  split
  ·rename_i b hb
   rw [hb] at hp0
   rw [hb]
   cases b <;> simp only [cond,hp0] <;> exact runF_eq _ _ _ _ _ _
  ·rename_i hb
   rw [hb]
   exact runF_eq _ _ _ _ _ _
  ·rename_i h1 h2
   split
   ·rename_i b hb;exact (h1 b hb).elim
   ·rename_i hb;exact (h2 hb).elim
   ·rfl
 | .ask e x k,fr,hp,R,W,K=>by
  simp only [runF,runW]
  cases e.f x with
  | none=>rfl
  | some y =>
   obtain ⟨sg,y',_,h1,_⟩:=elimS_ex e.outs y
   simp only [Option.bind_some,h1]
   exact runF_eq (k sg y') _ _ _ _ _
theorem runW_run:∀ (m:Acc P G α) (s:St) (R W:Nat) (x:α) (s':St) (R' W':Nat),runW m s R W=some (x,s',R',W')→run m s.1 s.2=some (x,s'.1,s'.2)
 | .pure a,s,R,W,x,s',R',W',h=>by cases h;rfl
 | .fail,_,_,_,_,_,_,_,h=>by cases h
 | .rd b i k,s,R,W,x,s',R',W',h=>by
  have:=runW_run (k (s.at b i)) _ _ _ _ _ _ _ h
  cases b <;> exact this
 | .wr b i v k,s,R,W,x,s',R',W',h=>by
  have:=runW_run k _ _ _ _ _ _ _ h
  cases b <;> exact this
 | .br c x y,s,R,W,_,s',R',W',h=>by
  cases c
  ·exact runW_run y _ _ _ _ _ _ _ h
  ·exact runW_run x _ _ _ _ _ _ _ h
 | .bs i x y u,s,R,W,_,s',R',W',h=>by
  have e:s.at false i=nth s.1 i:=rfl
  simp only [runW,e] at h
  simp only [run]
  split at h
  ·rename_i b hb
   rw [hb]
   cases b
   ·exact runW_run y _ _ _ _ _ _ _ h
   ·exact runW_run x _ _ _ _ _ _ _ h
  ·rename_i hb
   rw [hb]
   exact runW_run u _ _ _ _ _ _ _ h
  ·cases h
 | .ask e x k,s,R,W,_,s',R',W',h=>by
  simp only [runW] at h
  simp only [run]
  cases he:e.f x with
  | none=>rw [he] at h;cases h
  | some y =>
   rw [he] at h
   obtain ⟨sg,y',_,h1,_⟩:=elimS_ex e.outs y
   simp only [Option.bind_some,h1] at h ⊢
   exact runW_run (k sg y') _ _ _ _ _ _ _ h
def Local (m:Acc P G α) (s:St) (R W:Nat) (x:α) (s':St) (R' W':Nat):Prop :=
 (∀ l,has R l→has R' l)∧(∀ l,has W l→has W' l)∧s.same s'∧∀ s2,s.same s2→(∀ b i,has R' (loc b i)→s2.at b i=s.at b i) →
  ∃ s2',runW m s2 R W=some (x,s2',R',W')∧s'.same s2'∧∀ b i,(s2'.at b i=s'.at b i∧has W' (loc b i)) ∨ (s2'.at b i=s2.at b i∧s'.at b i=s.at b i)
theorem St.same_trans {a b c:St} (h:a.same b) (k:b.same c):a.same c:=⟨k.1.trans h.1,k.2.trans h.2⟩
theorem St.same_symm {a b:St} (h:a.same b):b.same a:=⟨h.1.symm,h.2.symm⟩
theorem runW_local:∀ (m:Acc P G α) (s:St) (R W:Nat) (x:α) (s':St) (R' W':Nat),runW m s R W=some (x,s',R',W')→Local m s R W x s' R' W'
 | .pure a,s,R,W,x,s',R',W',h=>by
  cases h
  exact ⟨fun _ h=>h,fun _ h=>h,⟨rfl,rfl⟩,fun s2 hs _=>⟨s2,rfl,hs,fun b i=>.inr ⟨rfl,rfl⟩⟩⟩
 | .fail,_,_,_,_,_,_,_,h=>by cases h
 | .rd b i k,s,R,W,x,s',R',W',h=>by
  obtain ⟨h1,h2,h3,h4⟩:=runW_local (k (s.at b i)) _ _ _ _ _ _ _ h
  refine ⟨fun l hl=>h1 l (has_bit.2 (.inl hl)),h2,h3,fun s2 hs ha=>?_⟩
  obtain ⟨s2',k1,k2,k3⟩:=h4 s2 hs ha
  refine ⟨s2',?_,k2,k3⟩
  simp only [runW]
  rw [ha b i (h1 _ (has_bit.2 (.inr rfl)))]
  exact k1
 | .wr b i v k,s,R,W,x,s',R',W',h=>by
  obtain ⟨h1,h2,h3,h4⟩:=runW_local k _ _ _ _ _ _ _ h
  refine ⟨h1,fun l hl=>h2 l (has_bit.2 (.inl hl)),St.same_trans (s.same_set b i v) h3,fun s2 hs ha=>?_⟩
  obtain ⟨s2',k1,k2,k3⟩:=h4 (s2.set b i v) (s.set_same s2 b i v hs) (fun b' i' hb=>by
   by_cases e:b'=b∧i'=i
   ·rw [e.1,e.2];exact St.at_eq s s2 b i v hs
   ·rw [St.at_ne _ _ e,St.at_ne _ _ e];exact ha b' i' hb)
  refine ⟨s2',k1,k2,fun b' i'=>?_⟩
  rcases k3 b' i' with k | ⟨k,k'⟩
  ·exact .inl k
  ·by_cases e:b'=b∧i'=i
   ·refine .inl ⟨?_,?_⟩
    ·rw [k,k',e.1,e.2];exact St.at_eq s s2 b i v hs
    ·rw [e.1,e.2];exact h2 _ (has_bit.2 (.inr rfl))
   ·refine .inr ⟨?_,?_⟩
    ·rw [k];exact St.at_ne _ _ e
    ·rw [k'];exact St.at_ne _ _ e
 | .br c x y,s,R,W,_,s',R',W',h=>by
  cases c
  ·exact runW_local y _ _ _ _ _ _ _ h
  ·exact runW_local x _ _ _ _ _ _ _ h
 | .bs i x y u,s,R,W,z,s',R',W',h=>by
  simp only [runW] at h
  split at h
  ·rename_i b hb
   have:Local (if b then x else y) s (bitN R (loc false i)) W z s' R' W':=by
    cases b
    ·exact runW_local y _ _ _ _ _ _ _ h
    ·exact runW_local x _ _ _ _ _ _ _ h
   obtain ⟨h1,h2,h3,h4⟩:=this
   refine ⟨fun l hl=>h1 l (has_bit.2 (.inl hl)),h2,h3,fun s2 hs ha=>?_⟩
   obtain ⟨s2',k1,k2,k3⟩:=h4 s2 hs ha
   refine ⟨s2',?_,k2,k3⟩
   simp only [runW]
   rw [ha false i (h1 _ (has_bit.2 (.inr rfl))),hb]
   cases b <;> exact k1
  ·rename_i hb
   obtain ⟨h1,h2,h3,h4⟩:=runW_local u _ _ _ _ _ _ _ h
   refine ⟨fun l hl=>h1 l (has_bit.2 (.inl hl)),h2,h3,fun s2 hs ha=>?_⟩
   obtain ⟨s2',k1,k2,k3⟩:=h4 s2 hs ha
   refine ⟨s2',?_,k2,k3⟩
   simp only [runW]
   rw [ha false i (h1 _ (has_bit.2 (.inr rfl))),hb]
   exact k1
  ·cases h
 | .ask e x k,s,R,W,_,s',R',W',h=>by
  simp only [runW] at h
  cases he:e.f x with
  | none=>rw [he] at h;cases h
  | some y =>
   rw [he] at h
   obtain ⟨sg,y',_,hs,_⟩:=elimS_ex e.outs y
   simp only [Option.bind_some,hs] at h
   obtain ⟨h1,h2,h3,h4⟩:=runW_local (k sg y') _ _ _ _ _ _ _ h
   refine ⟨h1,h2,h3,fun s2 hs2 ha=>?_⟩
   obtain ⟨s2',k1,k2,k3⟩:=h4 s2 hs2 ha
   exact ⟨s2',by simp only [runW,he,Option.bind_some,hs];exact k1,k2,k3⟩
def Dis (f g:Nat × Nat):Prop:=∀ l,(has f.2 l→¬ has g.1 l∧¬ has g.2 l)∧(has g.2 l→¬ has f.1 l)
theorem disN_dis {R W R' W':Nat} (h:disN R W R' W'=true):Dis (R,W) (R',W'):=by
 unfold disN at h
 simp only [Bool.and_eq_true] at h
 intro l
 refine ⟨fun h1=>⟨fun h2=>land_zero h.1 l h1 (has_lor.2 (.inl h2)),fun h2=>land_zero h.1 l h1 (has_lor.2 (.inr h2))⟩,fun h1 h2=>land_zero h.2 l h1 h2⟩
theorem swap {m1 m2:Acc P G Unit} {s s1 s12:St} {f g:Nat × Nat} (h1:runW m1 s 0 0=some ((),s1,f.1,f.2)) (h2:runW m2 s1 0 0=some ((),s12,g.1,g.2)) (hd:Dis f g) :
 ∃ s2,runW m2 s 0 0=some ((),s2,g.1,g.2)∧runW m1 s2 0 0=some ((),s12,f.1,f.2):=by
 obtain ⟨_,_,a3,a4⟩:=runW_local _ _ _ _ _ _ _ _ h1
 obtain ⟨_,_,b3,b4⟩:=runW_local _ _ _ _ _ _ _ _ h2
 -- what the first step leaves
 have left:∀ b i,has f.2 (loc b i) ∨ s1.at b i=s.at b i:=by
  obtain ⟨s',k1,_,k3⟩:=a4 s ⟨rfl,rfl⟩ (fun _ _ _=>rfl)
  intro b i
  rcases k3 b i with k | k
  ·exact .inl k.2
  ·exact .inr k.2
 have left2:∀ b i,has g.2 (loc b i) ∨ s12.at b i=s1.at b i:=by
  obtain ⟨s',k1,_,k3⟩:=b4 s1 ⟨rfl,rfl⟩ (fun _ _ _=>rfl)
  intro b i
  rcases k3 b i with k | k
  ·exact .inl k.2
  ·exact .inr k.2
 obtain ⟨s2,c1,c2,c3⟩:=b4 s (St.same_symm a3) (fun b i hb=>by
  rcases left b i with k | k
  ·exact (((hd (loc b i)).1 k).1 hb).elim
  ·exact k.symm)
 have hs2:s.same s2:=St.same_trans (St.same_trans a3 b3) c2
 obtain ⟨s21,d1,d2,d3⟩:=a4 s2 hs2 (fun b i hb=>by
  rcases c3 b i with ⟨_,k⟩ | ⟨k,_⟩
  ·exact ((hd (loc b i)).2 k hb).elim
  ·exact k)
 refine ⟨s2,c1,?_⟩
 have:s21=s12:=St.ext (St.same_trans (St.same_symm b3) d2) (fun b i=>by
  rcases d3 b i with ⟨k1,k2⟩ | ⟨k1,k2⟩
  ·rw [k1]
   rcases left2 b i with k | k
   ·exact (((hd (loc b i)).1 k2).2 k).elim
   ·exact k.symm
  ·rcases c3 b i with ⟨e1,_⟩ | ⟨e1,e2⟩
   ·rw [k1,e1]
   ·rw [k1,e1,e2,k2])
 rw [← this]
 exact d1
def Runs (m:Nat→Acc P G Unit) (F:Nat→Nat × Nat):List Nat→St→St→Prop
 | [],s,s'=>s=s'
 | i :: l,s,s'=>∃ s1,runW (m i) s 0 0=some ((),s1,(F i).1,(F i).2)∧Runs m F l s1 s'
theorem bubble {m:Nat→Acc P G Unit} {F:Nat→Nat × Nat} {j:Nat} {l2:List Nat} {s':St}:∀ (l1:List Nat) (s:St),(∀ i ∈ l1,Dis (F i) (F j))→Runs m F (l1 ++ j :: l2) s s'→Runs m F (j :: (l1 ++ l2)) s s'
 | [],_,_,h=>h
 | i :: l1,s,hd,h=>by
  obtain ⟨s1,h1,h2⟩:=h
  obtain ⟨s12,h3,h4⟩:=bubble l1 s1 (fun k hk=>hd k (List.mem_cons_of_mem _ hk)) h2
  obtain ⟨s2,h5,h6⟩:=swap h1 h3 (hd i (by simp))
  exact ⟨s2,h5,s12,h6,h4⟩
end Ev
end Go.Proofs.YtlfcdmibknmjeaaGreatDoor
namespace Go.Proofs.YtlfcdmibknmjeaaGreatDoor
namespace Ev
open Go Go.RowKit
variable {P:Program} {G:List GV} {E:Entry} {T:Tab}
def opAt (T:Tab) (env:List (Kn P G)) (nt nh:Nat) (ops:Array Oper) (i:Nat):Acc P G Unit:=match ops[i]? with | some o=>operA T env nt nh ops o | none=>.fail
def opsW (T:Tab) (env:List (Kn P G)) (nt nh:Nat) (ops:Array Oper):List Oper→List Nat→List (Nat × Nat)→St→Option (St × List Nat × List (Nat × Nat))
 | [],ms,tr,s=>some (s,ms,tr)
 | o :: l,ms,tr,s=>(runW (operA T env nt nh ops o) s 0 0).bind fun r=>cond (edgeOk ms.length o.after.toList && chkP (maskOf ms o.after.toList) r.2.2.1 r.2.2.2 0 tr)
  (opsW T env nt nh ops l (ms ++ [maskOf ms o.after.toList]) (tr ++ [(r.2.2.1,r.2.2.2)]) r.2.1) none
theorem opsF_eq {γ:Type} {env:List (Kn P G)} {nt nh:Nat} {ops:Array Oper} (K:List SV→List SV→Option γ):∀ (l:List Oper) (ms:List Nat) (tr:List (Nat × Nat)) (fr hp:List SV),
 opsF T env nt nh ops l ms tr fr hp K=(opsW T env nt nh ops l ms tr (fr,hp)).bind fun r=>K r.1.1 r.1.2
 | [],_,_,_,_=>rfl
 | o :: l,ms,tr,fr,hp=>by
  simp only [opsF,opsW,runF_eq,forceN_eq]
  cases runW (operA T env nt nh ops o) (fr,hp) 0 0 with
  | none=>rfl
  | some r =>
   simp only [Option.bind_some]
   cases (edgeOk ms.length o.after.toList && chkP (maskOf ms o.after.toList) r.2.2.1 r.2.2.2 0 tr) with
   | false=>rfl
   | true=>exact opsF_eq K l _ _ _ _
theorem chkP_spec {mj R W:Nat}:∀ (tr:List (Nat × Nat)) (k:Nat),chkP mj R W k tr=true→∀ i (h:i < tr.length),has mj (k + i) ∨ Dis tr[i] (R,W)
 | [],_,_,i,h=>by simp at h
 | p :: tr,k,hc,i,h=>by
  obtain ⟨Ri,Wi⟩:=p
  simp only [chkP,Bool.and_eq_true] at hc
  cases i with
  | zero =>
   cases hb:Nat.testBit mj k with
   | true=>exact .inl hb
   | false=>rw [hb] at hc;exact .inr (disN_dis hc.1)
  | succ i =>
   have:=chkP_spec tr (k + 1) hc.2 i (by simpa using h)
   rw [show k + (i + 1)=k + 1 + i by omega]
   exact this
theorem maskOf_spec {ms:List Nat} {i:Nat}:∀ (es:List Edge),has (maskOf ms es) i→∃ e ∈ es,Region.binds .any e=true∧(i=e.on ∨ has (ms.getD e.on 0) i)
 | [],h=>by simp [maskOf,has] at h
 | e :: es,h=>by
  unfold maskOf at h
  cases hb:Region.binds .any e with
  | false =>
   rw [hb] at h
   obtain ⟨e',h1,h2⟩:=maskOf_spec es h
   exact ⟨e',List.mem_cons_of_mem _ h1,h2⟩
  | true =>
   rw [hb] at h
   rcases has_lor.1 h with h | h
   ·exact ⟨e,by simp,hb,(has_bit.1 h).symm⟩
   ·obtain ⟨e',h1,h2⟩:=maskOf_spec es h
    exact ⟨e',List.mem_cons_of_mem _ h1,h2⟩
theorem edgeOk_spec {n:Nat}:∀ (es:List Edge),edgeOk n es=true→∀ e ∈ es,Region.binds .any e=true→e.on < n
 | [],_,e,he,_=>by simp at he
 | e0 :: es,h,e,he,hb=>by
  simp only [edgeOk,Bool.and_eq_true] at h
  rcases List.mem_cons.1 he with rfl | he
  ·rw [hb] at h
   exact Nat.le_of_ble_eq_true h.1
  ·exact edgeOk_spec es h.2 e he hb
structure Told (ops:Array Oper) (n:Nat) (ms:List Nat) (tr:List (Nat × Nat)):Prop where
 len:ms.length=n∧tr.length=n
 mask:∀ j,j < n→∃ o,ops[j]?=some o∧ms.getD j 0=maskOf (ms.take j) o.after.toList∧edgeOk j o.after.toList=true
 pair:∀ j,j < n→∀ i,i < j→has (ms.getD j 0) i ∨ Dis (tr.getD i (0,0)) (tr.getD j (0,0))
theorem opsW_told {env:List (Kn P G)} {nt nh:Nat} {ops:Array Oper}:∀ (l:List Oper) (n:Nat) (ms:List Nat) (tr:List (Nat × Nat)) (s s':St) (ms':List Nat) (tr':List (Nat × Nat)),Told ops n ms tr→(∀ j,l[j]?=ops[n + j]?) →
 opsW T env nt nh ops l ms tr s=some (s',ms',tr')→Told ops (n + l.length) ms' tr'∧(∀ i,i < n→tr'.getD i (0,0)=tr.getD i (0,0))∧Runs (opAt T env nt nh ops) (fun i=>tr'.getD i (0,0)) (List.range' n l.length) s s'
 | [],n,ms,tr,s,s',ms',tr',ht,_,hr=>by
  cases hr
  exact ⟨ht,fun _ _=>rfl,rfl⟩
 | o :: l,n,ms,tr,s,s',ms',tr',ht,hl,hr=>by
  simp only [opsW] at hr
  cases h1:runW (operA T env nt nh ops o) s 0 0 with
  | none=>rw [h1] at hr;cases hr
  | some r =>
   rw [h1] at hr
   simp only [Option.bind_some] at hr
   cases hc:(edgeOk ms.length o.after.toList && chkP (maskOf ms o.after.toList) r.2.2.1 r.2.2.2 0 tr) with
   | false=>rw [hc] at hr;cases hr
   | true =>
    rw [hc] at hr
    simp only [Bool.and_eq_true] at hc
    have h0:ops[n]?=some o:=by simpa using (hl 0).symm
    obtain ⟨e1,e2⟩:=ht.len
    have gm:∀ j,j < n→(ms ++ [maskOf ms o.after.toList]).getD j 0=ms.getD j 0:=fun j hj=>by
     simp [List.getD_eq_getElem?_getD,List.getElem?_append_left (show j < ms.length by omega)]
    have gmn:(ms ++ [maskOf ms o.after.toList]).getD n 0=maskOf ms o.after.toList:=by
     simp [List.getD_eq_getElem?_getD,← e1]
    have gt:∀ j,j < n→(tr ++ [(r.2.2.1,r.2.2.2)]).getD j (0,0)=tr.getD j (0,0):=fun j hj=>by
     simp [List.getD_eq_getElem?_getD,List.getElem?_append_left (show j < tr.length by omega)]
    have gtn:(tr ++ [(r.2.2.1,r.2.2.2)]).getD n (0,0)=(r.2.2.1,r.2.2.2):=by
     simp [List.getD_eq_getElem?_getD,← e2]
    have tk:∀ j,j ≤ n→(ms ++ [maskOf ms o.after.toList]).take j=ms.take j:=fun j hj=>List.take_append_of_le_length (by omega)
    have ht':Told ops (n + 1) (ms ++ [maskOf ms o.after.toList]) (tr ++ [(r.2.2.1,r.2.2.2)]):=by
     refine ⟨by simp [e1,e2],fun j hj=>?_,fun j hj i hi=>?_⟩
     ·rcases Nat.lt_or_ge j n with h | h
      ·rw [gm j h,tk j (by omega)];exact ht.mask j h
      ·have:j=n:=by omega
       subst this
       refine ⟨o,h0,?_,by rw [← e1];exact hc.1⟩
       rw [gmn,tk j (Nat.le_refl _),← e1,List.take_length]
     ·rcases Nat.lt_or_ge j n with h | h
      ·rw [gm j h,gt i (by omega),gt j h];exact ht.pair j h i hi
      ·have:j=n:=by omega
       subst this
       rw [gmn,gtn,gt i hi]
       have:=chkP_spec tr 0 hc.2 i (by omega)
       rw [Nat.zero_add] at this
       rw [List.getD_eq_getElem?_getD,List.getElem?_eq_getElem (by omega)]
       exact this
    obtain ⟨k1,k2,k3⟩:=opsW_told l (n + 1) _ _ _ s' ms' tr' ht' (fun j=>by have:=hl (j + 1);simpa [Nat.add_assoc,Nat.add_comm 1 j] using this) hr
    refine ⟨by rw [List.length_cons,show n + (l.length + 1)=n + 1 + l.length by omega];exact k1,fun i hi=>(k2 i (by omega)).trans (gt i hi),?_⟩
    refine ⟨r.2.1,?_,k3⟩
    have hF:tr'.getD n (0,0)=(r.2.2.1,r.2.2.2):=(k2 n (by omega)).trans gtn
    simp only [hF,opAt,h0,h1]
def Down (ops:Array Oper) (listed:Array Bool):Prop:=∀ j,listed.getD j false=true→∀ o,ops[j]?=some o→∀ e ∈ o.after,Region.binds .any e=true→listed.getD e.on false=true
theorem waits {ops:Array Oper} {n:Nat} {ms:List Nat} {tr:List (Nat × Nat)} (ht:Told ops n ms tr) {listed:Array Bool} (hd:Down ops listed) {i:Nat}:∀ j,j < n→(∀ o,ops[j]?=some o→∀ e ∈ o.after,Region.binds .any e=true→listed.getD e.on false=true) →
 has (ms.getD j 0) i→listed.getD i false=true:=by
 intro j
 induction j using Nat.strongRecOn with
 | _ j ih =>
  intro hj he hh
  obtain ⟨o,ho,hm,hk⟩:=ht.mask j hj
  rw [hm] at hh
  obtain ⟨e,h1,h2,h3⟩:=maskOf_spec _ hh
  have hon:=he o ho e (by simpa using h1) h2
  rcases h3 with rfl | h3
  ·exact hon
  ·have hlt:=edgeOk_spec _ hk e h1 h2
   have:(ms.take j).getD e.on 0=ms.getD e.on 0:=by simp [List.getD_eq_getElem?_getD,List.getElem?_take_of_lt hlt]
   rw [this] at h3
   exact ih e.on hlt (by omega) (fun o' ho'=>hd e.on hon o' ho') h3
theorem getD_both {listed:Array Bool} {j n:Nat} (hs:listed.size=n) (hj:j < n):listed.getD j true=listed.getD j false:=by
 simp [Array.getD_eq_getD_getElem?,show j < listed.size by omega]
theorem draw_any (hT:tabChk P T=true) {env:List (Kn P G)} {nt nh:Nat} {ops:Array Oper} {ms:List Nat} {tr:List (Nat × Nat)} (ht:Told ops ops.size ms tr) {Q:Exit→Act→World→Prop} {d:List Deferred} {s':St} (hQ:∀ a w,Ends G E d s'.1 s'.2 a w→Q .normal a w) :
 ∀ (k:Nat) (rem:List Nat) (listed:Array Bool) (s:St) (a:Act) (w:World),rem.length=k→Ends G E d s.1 s.2 a w→Runs (opAt T env nt nh ops) (fun i=>tr.getD i (0,0)) rem s s'→rem.Pairwise (· < ·) →
  (∀ j,j ∈ rem ↔ listed.getD j true=false)→listed.size=ops.size→Down ops listed→wpAny P .any ops Q k listed a w:=by
 intro k
 induction k with
 | zero =>
  intro rem listed s a w hk h hr _ hm hsz _
  have:rem=[]:=List.eq_nil_of_length_eq_zero hk
  subst this
  cases hr
  refine ⟨?_,hQ a w h⟩
  apply List.eq_nil_iff_forall_not_mem.2
  intro j hj
  have:=(hm j).2 (mem_ready.1 hj).1
  simp at this
 | succ k ih =>
  intro rem listed s a w hk h hr hp hm hsz hd
  have lt:∀ j,j ∈ rem→j < ops.size:=fun j hj=>by
   rcases Nat.lt_or_ge j ops.size with h' | h'
   ·exact h'
   ·have:=(hm j).1 hj
    rw [Array.getD_eq_getD_getElem?,Array.getElem?_eq_none (by omega)] at this
    cases this
  refine ⟨fun hn=>?_,fun j hj=>?_⟩
  ·exfalso
   match rem,hk,hp,hm,lt with
   | j :: rem,_,hp,hm,lt =>
    have hj:=lt j (by simp)
    obtain ⟨o,ho,_,he⟩:=ht.mask j hj
    have:j ∈ Region.ready .any ops listed:=by
     refine mem_ready.2 ⟨(hm j).1 (by simp),o,ho,fun e he1 hb=>?_⟩
     have hlt:=edgeOk_spec _ he e (by simpa using he1) hb
     rw [← getD_both hsz (by omega)]
     cases hl:listed.getD e.on true with
     | true=>rfl
     | false =>
      rcases List.mem_cons.1 ((hm e.on).2 hl) with e1 | e1
      ·omega
      ·have:=(List.pairwise_cons.1 hp).1 _ e1
       omega
    rw [hn] at this
    cases this
  ·obtain ⟨hun,o,ho,haft⟩:=mem_ready.1 hj
   have hjr:=(hm j).2 hun
   have hjl:=lt j hjr
   obtain ⟨l1,l2,rfl⟩:=List.append_of_mem hjr
   have hpp:=List.pairwise_append.1 hp
   have dis:∀ i ∈ l1,Dis (tr.getD i (0,0)) (tr.getD j (0,0)):=fun i hi=>by
    have hij:i < j:=hpp.2.2 i hi j (by simp)
    rcases ht.pair j hjl i hij with hh | hh
    ·exfalso
     have hl:=waits ht hd j hjl (fun o' ho' e he hb=>by
      rw [ho] at ho';cases ho'
      exact haft e he hb) hh
     have hun':=(hm i).1 (by simp [hi])
     rw [getD_both hsz (by omega),hl] at hun'
     cases hun'
    ·exact hh
   obtain ⟨s1,h1,h2⟩:=bubble (F:=fun i=>tr.getD i (0,0)) l1 s dis hr
   have hrun:=runW_run _ _ _ _ _ _ _ _ h1
   simp only [opAt,ho] at hrun
   obtain ⟨hdef,β,N,hsim⟩:=h
   unfold wpOp
   simp only [ho]
   refine oper_sound hT hsim hrun _ Q fun a' w' ⟨hd',β',N',hs'⟩=>?_
   refine ih (l1 ++ l2) _ s1 a' w' (by simp at hk ⊢;omega) ⟨hd'.trans hdef,β',N',hs'⟩ h2 ?_ (fun i=>?_) (by simpa using hsz) (fun i hi o' ho' e he hb=>?_)
   ·exact List.pairwise_append.2 ⟨hpp.1,(List.pairwise_cons.1 hpp.2.1).2,fun x hx y hy=>hpp.2.2 x hx y (List.mem_cons_of_mem _ hy)⟩
   ·by_cases hij:i=j
    ·subst hij
     have h0:(listed.setIfInBounds i true).getD i true=true:=by
      simp [Array.getD_eq_getD_getElem?]
     rw [h0]
     simp only [Bool.true_eq_false,iff_false]
     intro hmem
     rcases List.mem_append.1 hmem with hm1 | hm1
     ·have:=hpp.2.2 i hm1 i (by simp);omega
     ·have:=(List.pairwise_cons.1 hpp.2.1).1 i hm1;omega
    ·rw [getD_set_ne true (Ne.symm hij),← hm i]
     simp [hij]
   ·by_cases hij:i=j
    ·subst hij
     rw [ho] at ho';cases ho'
     exact getD_set_true (haft e he hb)
    ·rw [getD_set_ne false (Ne.symm hij)] at hi
     exact getD_set_true (hd i hi o' ho' e he hb)
theorem Ends.drew {d:List Deferred} {fr hp:List SV} {a:Act} {w:World} (h:Ends G E d fr hp a w) (n:Nat):Ends G E d fr hp a { w with drawn:=n }:=by
 obtain ⟨hd,β,N,h⟩:=h
 have hE:Ext w N { w with drawn:=n } N:=fun b o hb=>⟨hb,rfl⟩
 refine ⟨hd,β,N,h.len,fun i=>VR.later (Later.refl β hp) hE (h.slot i),fun i=>BR.later (Later.refl β hp) hE rfl (h.box i) (fun _ _=>⟨rfl,fun _ h=>h⟩),h.apart,h.bnd,h.os,h.tape,h.output,h.size,h.frame,h.keep.trans hE,h.new,h.ok,fun v hv=>?_,h.pin⟩
 obtain ⟨cs,h1,h2⟩:=h.glob v hv
 exact ⟨cs,rel_ext hE _ _ _ h1,h2.ext hE⟩
theorem draw_sound (hm:P.follows .mixedOrders=true) (hT:tabChk P T=true) {env:List (Kn P G)} {nt nh id:Nat} {ops:Array Oper} {Q:Exit→Act→World→Prop} {d:List Deferred} {fr hp f2 h2:List SV} {a:Act} {w:World} {ms:List Nat} {tr:List (Nat × Nat)}
 (h:Ends G E d fr hp a w) (hr:opsW T env nt nh ops ops.toList [] [] (fr,hp)=some ((f2,h2),ms,tr)) (hQ:∀ a w,Ends G E d f2 h2 a w→Q .normal a w):(Code.region id ops true).wp P Q a w:=by
 obtain ⟨k1,_,k3⟩:=opsW_told ops.toList 0 [] [] (fr,hp) (f2,h2) ms tr ⟨⟨rfl,rfl⟩,fun j hj=>(by omega),fun j hj=>(by omega)⟩ (fun j=>by simp) hr
 simp only [Nat.zero_add,Array.length_toList] at k1 k3
 refine wp_region_any hm (draw_any hT k1 hQ ops.size _ _ (fr,hp) a _ (by simp) (h.drew _) k3 ?_ (fun j=>?_) (by simp) (fun j hj=>?_))
 ·exact List.pairwise_lt_range'
 ·simp only [List.mem_range'_1,Nat.zero_le,true_and,Nat.zero_add,Array.getD_eq_getD_getElem?,Array.getElem?_replicate]
  split <;> simp_all
 ·rw [Array.getD_eq_getD_getElem?,Array.getElem?_replicate] at hj
  split at hj <;> simp at hj
end Ev
end Go.Proofs.YtlfcdmibknmjeaaGreatDoor
namespace Go.Proofs.YtlfcdmibknmjeaaGreatDoor
namespace Ev
open Go Go.RowKit
variable {P:Program} {G:List GV} {α:Type} {E:Entry} {fr hp:List SV} {w:World} {a:Act} {T:Tab} {γ:Type}
theorem run_len:∀ (m:Acc P G α) (fr hp:List SV) (r:α × List SV × List SV),run m fr hp=some r→r.2.1.length=fr.length
 | .pure a,fr,hp,r,h=>by cases h;rfl
 | .fail,_,_,_,h=>by cases h
 | .rd b i k,fr,hp,r,h=>run_len (k _) fr hp r h
 | .wr b i v k,fr,hp,r,h=>by
  simp only [run] at h
  cases b with
  | true=>exact run_len k fr _ r h
  | false=>rw [run_len k _ hp r h,len_put]
 | .br c x y,fr,hp,r,h=>by
  simp only [run] at h
  cases c with
  | true=>exact run_len x fr hp r h
  | false=>exact run_len y fr hp r h
 | .bs i x y u,fr,hp,r,h=>by
  simp only [run] at h
  split at h
  ·rename_i b _
   cases b with
   | true=>exact run_len x fr hp r h
   | false=>exact run_len y fr hp r h
  ·exact run_len u fr hp r h
  ·cases h
 | .ask e x k,fr,hp,r,h=>by
  simp only [run] at h
  cases he:e.f x with
  | none=>rw [he] at h;cases h
  | some y =>
   rw [he] at h
   obtain ⟨sg,y',_,h1,_⟩:=elimS_ex e.outs y
   simp only [Option.bind_some,h1] at h
   exact run_len (k sg y') fr hp r h
theorem opsR_len {env:List (Kn P G)} {nt nh:Nat} {ops:Array Oper}:∀ (l:List Oper) (fr hp:List SV) (r:List SV × List SV),opsR T env nt nh ops l fr hp=some r→r.1.length=fr.length
 | [],fr,hp,r,h=>by cases h;rfl
 | o :: l,fr,hp,r,h=>by
  simp only [opsR] at h
  cases h1:run (operA T env nt nh ops o) fr hp with
  | none=>rw [h1] at h;cases h
  | some r1=>rw [h1] at h;rw [opsR_len l _ _ r h,run_len _ _ _ _ h1]
theorem opsW_len {env:List (Kn P G)} {nt nh:Nat} {ops:Array Oper}:∀ (l:List Oper) (ms:List Nat) (tr:List (Nat × Nat)) (s:St) (r:St × List Nat × List (Nat × Nat)),opsW T env nt nh ops l ms tr s=some r→r.1.1.length=s.1.length
 | [],_,_,s,r,h=>by cases h;rfl
 | o :: l,ms,tr,s,r,h=>by
  simp only [opsW] at h
  cases h1:runW (operA T env nt nh ops o) s 0 0 with
  | none=>rw [h1] at h;cases h
  | some r1 =>
   rw [h1] at h
   simp only [Option.bind_some] at h
   cases hc:(edgeOk ms.length o.after.toList && chkP (maskOf ms o.after.toList) r1.2.2.1 r1.2.2.2 0 tr) with
   | false=>rw [hc] at h;cases h
   | true =>
    rw [hc] at h
    rw [opsW_len l _ _ _ r h]
    exact (runW_local _ _ _ _ _ _ _ _ (show runW (operA T env nt nh ops o) s 0 0=some (r1.1,r1.2.1,r1.2.2.1,r1.2.2.2) from h1)).2.2.1.1
def toExit:Ex→Exit | .normal=>.normal | .ret=>.ret | .exit i=>.exit i
def outsOk (nh:Nat) (pn:List Nat):Outs→Bool | []=>true | o :: os=>(sigOk .one nh o.2 [] [] && subN pn (sigPins o.2)) && outsOk nh pn os
theorem exEq_eq {e f:Ex} (h:exEq e f=true):e=f:=by
 cases e <;> cases f <;> simp [exEq] at h <;> first | rfl | (rw [h])
theorem inj_proj {nt nh:Nat} {pn:List Nat} (hE:Pins E pn) (hn:fr.length=nt) {d:List Deferred} (h:Ends G E d fr hp a w):∀ (os:Outs) (ex:Ex) {δ:Type} (K1:Out os→δ) (y1:δ),outsOk nh pn os=true→injK (P:=P) (G:=G) os ex fr hp (fun _ _ x=>some (K1 x))=some y1 →
 ∃ y,K1 y=y1∧∀ {γ:Type} (K:Ex→List SV→List SV→Option γ) (z:γ),projK os y nt nh K=some z→∃ fr2 hp2,fr2.length=nt∧Ends G E d fr2 hp2 a w∧K ex fr2 hp2=some z
 | [],_,_,_,_,_,hi=>by cases hi
 | [(e,sg)],ex,δ,K1,y1,ho,hi=>by
  simp only [injK] at hi
  cases hx:exEq e ex with
  | false=>rw [hx] at hi;cases hi
  | true =>
   rw [hx] at hi
   simp only [cond,runK_eq] at hi
   cases hc:run (capA sg .pure:Acc P G (Tup (sigTys sg))) fr hp with
   | none=>rw [hc] at hi;cases hi
   | some r =>
    rw [hc] at hi
    simp only [Option.bind_some,Option.some.injEq] at hi
    refine ⟨r.1,hi,fun K z hz=>?_⟩
    simp only [outsOk,Bool.and_eq_true] at ho
    obtain ⟨hd,β,N,hs⟩:=h
    simp only [projK] at hz
    obtain ⟨fr2,hp2,β2,N2,k1,k2,k3⟩:=cap_res (r1:=r.2) hs hn ho.1.1 hE ho.1.2 hc hz
    exact ⟨fr2,hp2,k1,⟨hd,β2,N2,k2⟩,by rw [← exEq_eq hx];exact k3⟩
 |(e,sg) :: q :: l,ex,δ,K1,y1,ho,hi=>by
  simp only [injK] at hi
  cases hx:exEq e ex with
  | false =>
   rw [hx] at hi
   have ho':outsOk nh pn (q :: l)=true:=by simp only [outsOk,Bool.and_eq_true] at ho ⊢;exact ho.2
   obtain ⟨y,k1,k2⟩:=inj_proj hE hn h (q :: l) ex (fun y=>K1 (.inr y)) y1 ho' hi
   exact ⟨.inr y,k1,fun K z hz=>k2 K z hz⟩
  | true =>
   rw [hx] at hi
   simp only [cond,runK_eq] at hi
   cases hc:run (capA sg .pure:Acc P G (Tup (sigTys sg))) fr hp with
   | none=>rw [hc] at hi;cases hi
   | some r =>
    rw [hc] at hi
    simp only [Option.bind_some,Option.some.injEq] at hi
    refine ⟨.inl r.1,hi,fun K z hz=>?_⟩
    simp only [outsOk,Bool.and_eq_true] at ho
    obtain ⟨hd,β,N,hs⟩:=h
    simp only [projK,Sum.elim_inl] at hz
    obtain ⟨fr2,hp2,β2,N2,k1,k2,k3⟩:=cap_res (r1:=r.2) hs hn ho.1.1 hE ho.1.2 hc hz
    exact ⟨fr2,hp2,k1,⟨hd,β2,N2,k2⟩,by rw [← exEq_eq hx];exact k3⟩
def LoopSound (P:Program) (G:List GV) (nt nh:Nat) (pn:List Nat) (l:LFn) (b:Code):Prop:=∀ (E:Entry) (d:List Deferred) (Q:Exit→Act→World→Prop) (fr hp:List SV) (a:Act) (w:World) (x:Tup (sigTys l.head)) (y:Out l.outs) (r1:List SV × List SV) {γ:Type} (K:Ex→List SV→List SV→Option γ) (z:γ),
 Pins E pn→fr.length=nt→Ends G E d fr hp a w→run (capA l.head .pure:Acc P G (Tup (sigTys l.head))) fr hp=some (x,r1)→l.f x=some y→projK l.outs y nt nh K=some z →
 (∀ e fr2 hp2 a2 w2,fr2.length=nt→Ends G E d fr2 hp2 a2 w2→K e fr2 hp2=some z→Q (toExit e) a2 w2)→(Code.loop b).wp P Q a w
def findL:List LAt→Nat→Option LFn
 | [],_=>none
 | a :: L,n=>cond (Nat.beq a.id n) (some a.l) (findL L n)
theorem lookL_elim {k:LFn→Option γ} {n:Nat} {z:γ}:∀ (L:List LAt),lookL k L n=some z→∃ l,findL L n=some l∧k l=some z
 | [],h=>by cases h
 | a :: L,h=>by
  simp only [lookL] at h
  simp only [findL]
  cases hb:Nat.beq a.id n with
  | true=>rw [hb] at h;exact ⟨_,rfl,h⟩
  | false=>rw [hb] at h;exact lookL_elim L h
def LoopsOk (P:Program) (G:List GV) (nt nh:Nat) (pn:List Nat) (L:List LAt):Code→Nat→Prop
 | .seq a b,p=>LoopsOk P G nt nh pn L a p∧LoopsOk P G nt nh pn L b p
 | .cond _ a b,p=>LoopsOk P G nt nh pn L a p∧LoopsOk P G nt nh pn L b p
 | .block i b,_=>LoopsOk P G nt nh pn L b i
 | .loop b,p=>∀ l,findL L p=some l→LoopSound P G nt nh pn l b
 | _,_=>True
def cutsOk (nh:Nat) (pn:List Nat):List CutAt→Bool | []=>true | c :: C=>outsOk nh pn c.outs && cutsOk nh pn C
theorem lookC_ok {nh:Nat} {pn:List Nat} {n:Nat} {os:Outs}:∀ (C:List CutAt),cutsOk nh pn C=true→lookC C n=some os→outsOk nh pn os=true
 | [],_,h=>by cases h
 | c :: C,ho,h=>by
  simp only [cutsOk,Bool.and_eq_true] at ho
  simp only [lookC] at h
  cases hb:Nat.beq c.at_ n with
  | true=>rw [hb] at h;cases h;exact ho.1
  | false=>rw [hb] at h;exact lookC_ok C ho.2 h
theorem code_sound (hm:P.follows .mixedOrders=true) (hT:tabChk P T=true) {env:List (Kn P G)} {nt nh:Nat} {pn:List Nat} (hE:Pins E pn) {L:List LAt} {C:List CutAt} (hC:cutsOk nh pn C=true) {d:List Deferred}:∀ (c:Code) (p:Nat) (fr hp:List SV) {γ:Type} (K:Ex→List SV→List SV→Option γ) (z:γ) (a:Act) (w:World) (Q:Exit→Act→World→Prop),
 LoopsOk P G nt nh pn L c p→fr.length=nt→Ends G E d fr hp a w→codeK T env nt nh L C c p fr hp K=some z→(∀ e fr2 hp2 a2 w2,fr2.length=nt→Ends G E d fr2 hp2 a2 w2→K e fr2 hp2=some z→Q (toExit e) a2 w2)→c.wp P Q a w:=by
 intro c
 induction c with
 | skip=>intro p fr hp γ K z a w Q _ hn h hr hK;exact wp_skip (hK .normal fr hp a w hn h hr)
 | exit i=>intro p fr hp γ K z a w Q _ hn h hr hK;exact wp_exit (hK (.exit i) fr hp a w hn h hr)
 | ret=>intro p fr hp γ K z a w Q _ hn h hr hK;exact wp_ret (hK .ret fr hp a w hn h hr)
 | region id ops draw =>
  intro p fr hp γ K z a w Q _ hn h hr hK
  have main:∀ {γ:Type} (K:Ex→List SV→List SV→Option γ) (z:γ),regK T env nt nh ops draw fr hp (fun fr hp=>K .normal fr hp)=some z→(∀ fr2 hp2 a2 w2,fr2.length=nt→Ends G E d fr2 hp2 a2 w2→K .normal fr2 hp2=some z→Q .normal a2 w2)→(Code.region id ops draw).wp P Q a w:=by
   intro γ K z hr hK
   unfold regK at hr
   cases draw with
   | false =>
    simp only [opsK_eq] at hr
    cases h1:opsR T env nt nh ops ops.toList fr hp with
    | none=>rw [h1] at hr;cases hr
    | some r =>
     rw [h1] at hr
     refine wp_region_list (ops_sound hT (d:=d) (f2:=r.1) (h2:=r.2) (fun a w he=>hK r.1 r.2 a w ?_ he hr) ops.toList fr hp a w h h1)
     rw [opsR_len _ _ _ _ h1,hn]
   | true =>
    simp only [opsF_eq] at hr
    cases h1:opsW T env nt nh ops ops.toList [] [] (fr,hp) with
    | none=>rw [h1] at hr;cases hr
    | some r =>
     rw [h1] at hr
     obtain ⟨⟨f2,h2⟩,ms,tr⟩:=r
     have hl:=opsW_len _ _ _ _ _ h1
     exact draw_sound hm hT h h1 (fun a w he=>hK f2 h2 a w (by rw [← hn];exact hl) he hr)
  simp only [codeK] at hr
  cases hcut:lookC C (id + far) with
  | none =>
   rw [hcut] at hr
   exact main K z hr (fun fr2 hp2 a2 w2 h1 h2 h3=>hK .normal fr2 hp2 a2 w2 h1 h2 h3)
  | some os =>
   rw [hcut] at hr
   have hos:=lookC_ok C hC hcut
   simp only at hr
   generalize hg:(regK T env nt nh ops draw fr hp fun fr hp=>injK (P:=P) (G:=G) os .normal fr hp fun _ _ x=>some x)=g at hr
   cases g with
   | none=>cases hr
   | some y =>
    refine main (fun e fr hp=>injK (P:=P) (G:=G) os e fr hp fun _ _ x=>some x) y hg fun fr2 hp2 a2 w2 hn2 he hk=>?_
    obtain ⟨y',e1,k2⟩:=inj_proj hE hn2 he os .normal (fun x=>x) y hos hk
    have e1:y'=y:=e1
    subst e1
    obtain ⟨fr3,hp3,hn3,he3,hk3⟩:=k2 _ z hr
    exact hK .normal fr3 hp3 a2 w2 hn3 he3 hk3
 | seq c1 c2 ih1 ih2 =>
  intro p fr hp γ K z a w Q hl hn h hr hK
  refine wp_seq ?_
  have next:∀ e fr2 hp2 a2 w2,fr2.length=nt→Ends G E d fr2 hp2 a2 w2→(match e with | .normal=>codeK T env nt nh L C c2 p fr2 hp2 K | .ret=>K .ret fr2 hp2 | .exit i=>K (.exit i) fr2 hp2)=some z →
   Exit.then (c2.wp P Q) Q (toExit e) a2 w2:=by
   intro e fr2 hp2 a2 w2 hn2 he hk
   cases e with
   | normal=>exact ih2 p fr2 hp2 K z a2 w2 Q hl.2 hn2 he hk hK
   | ret=>exact hK .ret fr2 hp2 a2 w2 hn2 he hk
   | exit i=>exact hK (.exit i) fr2 hp2 a2 w2 hn2 he hk
  simp only [codeK] at hr
  cases hcut:cutOf C c2 with
  | none =>
   rw [hcut] at hr
   exact ih1 p fr hp _ z a w _ hl.1 hn h hr next
  | some os =>
   rw [hcut] at hr
   have hos:outsOk nh pn os=true:=by
    unfold cutOf at hcut
    split at hcut
    ·exact lookC_ok C hC hcut
    ·cases hcut
   simp only at hr
   cases h1:codeK T env nt nh L C c1 p fr hp (fun e fr hp=>injK (P:=P) (G:=G) os e fr hp fun _ _ x=>some x) with
   | none=>rw [h1] at hr;cases hr
   | some y =>
    rw [h1] at hr
    refine ih1 p fr hp _ y a w _ hl.1 hn h h1 fun e fr2 hp2 a2 w2 hn2 he hk=>?_
    obtain ⟨y',e1,k2⟩:=inj_proj hE hn2 he os e (fun x=>x) y hos hk
    have e1:y'=y:=e1
    subst e1
    obtain ⟨fr3,hp3,hn3,he3,hk3⟩:=k2 _ z hr
    exact next e fr3 hp3 a2 w2 hn3 he3 hk3
 | cond c x y ihx ihy =>
  intro p fr hp γ K z a w Q hl hn h hr hK
  cases c with
  | tmp i =>
   simp only [codeK,nthK_eq,putK_eq] at hr
   split at hr
   ·rename_i t ht
    obtain ⟨hd,β,N,hs⟩:=h
    have hv:=hs.slot i
    rw [ht] at hv
    have hv:=vbool hv
    have hpn:=put_nth fr i
    rw [ht] at hpn
    cases t with
    | true =>
     simp only [cond,hpn] at hr
     exact wp_cond_true hv (ihx p fr hp K z a w Q hl.1 hn ⟨hd,β,N,hs⟩ hr hK)
    | false =>
     simp only [cond,hpn] at hr
     exact wp_cond_false hv (ihy p fr hp K z a w Q hl.2 hn ⟨hd,β,N,hs⟩ hr hK)
   ·cases hr
  | const v =>
   cases v with
   | bool t =>
    cases t with
    | true=>exact wp_cond_true rfl (ihx p fr hp K z a w Q hl.1 hn h hr hK)
    | false=>exact wp_cond_false rfl (ihy p fr hp K z a w Q hl.2 hn h hr hK)
   | _=>cases hr
  | global g=>cases hr
  | func f=>cases hr
 | block i b ih =>
  intro p fr hp γ K z a w Q hl hn h hr hK
  refine wp_block (ih i fr hp _ z a w _ hl hn h hr fun e fr2 hp2 a2 w2 hn2 he hk=>?_)
  cases e with
  | normal=>exact hK .normal fr2 hp2 a2 w2 hn2 he hk
  | ret=>exact hK .ret fr2 hp2 a2 w2 hn2 he hk
  | exit j =>
   simp only at hk
   show (if j=i then Q .normal a2 w2 else Q (.exit j) a2 w2)
   cases hb:Nat.beq i j with
   | true =>
    rw [hb] at hk
    rw [if_pos (Nat.eq_of_beq_eq_true hb).symm]
    exact hK .normal fr2 hp2 a2 w2 hn2 he hk
   | false =>
    rw [hb] at hk
    rw [if_neg (fun e=>by rw [e,Nat.beq_refl] at hb;cases hb)]
    exact hK (.exit j) fr2 hp2 a2 w2 hn2 he hk
 | loop b ih =>
  intro p fr hp γ K z a w Q hl hn h hr hK
  obtain ⟨l,hf,hr⟩:=lookL_elim L (show lookL _ L p=some z from hr)
  simp only [runK_eq] at hr
  cases h1:run (capA l.head .pure:Acc P G (Tup (sigTys l.head))) fr hp with
  | none=>rw [h1] at hr;cases hr
  | some r =>
   rw [h1] at hr
   simp only [Option.bind_some] at hr
   cases h2:l.f r.1 with
   | none=>rw [h2] at hr;cases hr
   | some y =>
    rw [h2] at hr
    exact hl l hf E d Q fr hp a w r.1 y r.2 K z hE hn h h1 h2 hr hK
 | _=>intro p fr hp γ K z a w Q _ hn h hr hK;cases hr
theorem loop_rounds (hm:P.follows .mixedOrders=true) (hT:tabChk P T=true) {env:Nat→List (Kn P G)} {nt nh id:Nat} {pn:List Nat} {L:Nat→List LAt} {C:List CutAt} (hC:cutsOk nh pn C=true) {hd:Sig} {os:Outs} (hh:sigOk .one nh hd [] []=true) (hp0:subN pn (sigPins hd)=true) (ho:outsOk nh pn os=true)
 {g:Nat→Tup (sigTys hd)→Option (Out os)} {body:Code} (hL:∀ k,LoopsOk P G nt nh pn (L k) body id) (h0:∀ x,g 0 x=none) (hs:∀ k x,roundK T (env k) nt nh (L k) C body id hd os (g k) x=g (k + 1) x) :
 ∀ (k:Nat),LoopSound P G nt nh pn ⟨hd,os,g k⟩ body:=by
 intro k E d Q fr hp a w x y r1 γ K z hE hn h hc hf hz hK
 have key:∀ (y:Out os) (_:projK os y nt nh K=some z) (k:Nat) (fr hp:List SV) (a:Act) (w:World) (x:Tup (sigTys hd)) (r1:List SV × List SV),fr.length=nt→Ends G E d fr hp a w→run (capA hd .pure:Acc P G (Tup (sigTys hd))) fr hp=some (x,r1)→g k x=some y→Code.rounds P body Q k a w:=by
  clear hn h hc hf hz fr hp a w x y r1 k
  intro y hz k
  induction k with
  | zero=>intro fr hp a w x r1 _ _ _ hf;rw [h0] at hf;cases hf
  | succ k ih =>
   intro fr hp a w x r1 hn h hc hf
   rw [← hs k x] at hf
   unfold roundK at hf
   obtain ⟨hdd,β,N,hsim⟩:=h
   obtain ⟨fr2,hp2,β2,N2,hn2,hsim2,hr⟩:=cap_res (r1:=r1) hsim hn hh hE hp0 hc hf
   refine code_sound hm hT hE hC body id fr2 hp2 _ y a w _ (hL k) hn2 ⟨hdd,β2,N2,hsim2⟩ hr fun e fr3 hp3 a3 w3 hn3 he3 hk3=>?_
   have out:∀ ex:Ex,injK (P:=P) (G:=G) os ex fr3 hp3 (fun _ _ y=>some y)=some y→Q (toExit ex) a3 w3:=by
    intro ex hi
    obtain ⟨y',e1,k2⟩:=inj_proj hE hn3 he3 os ex (fun x=>x) y ho hi
    have e1:y'=y:=e1
    subst e1
    obtain ⟨fr4,hp4,hn4,he4,hk4⟩:=k2 K z hz
    exact hK ex fr4 hp4 a3 w3 hn4 he4 hk4
   cases e with
   | normal =>
    simp only [runK_eq] at hk3
    cases h1:run (capA hd .pure:Acc P G (Tup (sigTys hd))) fr3 hp3 with
    | none=>rw [h1] at hk3;cases hk3
    | some r=>rw [h1] at hk3;exact ih fr3 hp3 a3 w3 r.1 r.2 hn3 he3 h1 hk3
   | ret=>exact out .ret hk3
   | exit j=>exact out (.exit j) hk3
 exact wp_loop_rounds k (key y hz k fr hp a w x r1 hn h hc hf)
end Ev
end Go.Proofs.YtlfcdmibknmjeaaGreatDoor
namespace Go.Proofs.YtlfcdmibknmjeaaGreatDoor
namespace Ev
open Go Go.RowKit
variable {P:Program} {G:List GV} {α:Type} {E:Entry} {fr hp:List SV} {tm:Array Value} {w:World} {β:Nat→BI} {N:Reg} {r:α × List SV × List SV} {T:Tab}
def resOne (tm:Array Value):ResultVar→Sem Value
 | .tmp t=>pure (tm.getD t undef)
 | .cell a t=>do loadVar t (← asAddr (tm.getD a undef))
theorem resFr_elim {γ:Type} (hT:tabChk P T=true) (h:Sim G E fr hp tm w β N):∀ (vs:List ResultVar) (K:List SV→Option γ) (z:γ),resFr (P:=P) (G:=G) T vs fr hp K=some z →
 ∃ frR us,frR.length=vs.length∧us.length=vs.length∧(∀ i,VR β hp w N (nth frR i) (us.toArray.getD i undef))∧(vs.mapM (resOne tm)).run P w=.ok us w∧K frR=some z
 | [],K,z,hr=>⟨[],[],rfl,rfl,fun _=>True.intro,by simp,hr⟩
 | v :: vs,K,z,hr=>by
  have cons:∀ (sv:SV) (u:Value) (hv:VR β hp w N sv u) (hrun:(resOne tm v).run P w=.ok u w) (hr:resFr (P:=P) (G:=G) T vs fr hp (fun xs=>K (sv :: xs))=some z),
   ∃ frR us,frR.length=(v :: vs).length∧us.length=(v :: vs).length∧(∀ i,VR β hp w N (nth frR i) (us.toArray.getD i undef))∧((v :: vs).mapM (resOne tm)).run P w=.ok us w∧K frR=some z:=by
   intro sv u hv hrun hr
   obtain ⟨frR,us,h1,h1',h2,h3,h4⟩:=resFr_elim hT h vs _ z hr
   refine ⟨sv :: frR,u :: us,by simp [h1],by simp [h1'],fun j=>?_,?_,h4⟩
   ·cases j with
    | zero=>exact hv
    | succ j =>
     have:=h2 j
     simp only [Array.getD_eq_getD_getElem?,List.getElem?_toArray,List.getElem?_cons_succ] at this ⊢
     exact this
   ·simp only [List.mapM_cons,Sem.run_bind,Sem.run_pure,hrun,Result.andThen_ok,h3]
  cases v with
  | tmp i =>
   simp only [resFr,nthK_eq] at hr
   exact cons (nth fr i) _ (h.slot i) rfl hr
  | cell i t =>
   simp only [resFr,nthK_eq,runK_eq] at hr
   cases h1:run (resCellA T t (nth fr i):Acc P G SV) fr hp with
   | none=>rw [h1] at hr;cases hr
   | some r =>
    rw [h1] at hr
    simp only [Option.bind_some] at hr
    unfold resCellA at h1
    obtain ⟨u,ht,h1⟩:=tyA_elim hT h1
    have hsl:=h.slot i
    cases hv:nth fr i with
    | ptr id ver p u' =>
     rw [hv] at h1 hsl
     obtain ⟨e,h1e⟩:=eqA_elim h1
     clear h1
     subst e
     obtain ⟨k1,k2,k3,k4⟩:=(hsl:nth hp id ≠ .none∧ver ≤ bver (nth hp id)∧(∃ ad,tm.getD i undef=.pointer (some ad))∧(ver=bver (nth hp id)→∃ o,inBox (β id).bt (nth hp id) p=some (o,u')∧tm.getD i undef=.pointer (some ⟨(β id).blk,o,none⟩)))
     simp only [run,if_true] at h1e
     have go:(nth hp id ≠ .none)→(∀ v,nth hp id ≠ .dead v)→kindB (nth hp id) ≠ 2→bver (nth hp id)=0→run (cond (Nat.beq ver 0) (getA p (nth hp id) .pure) .fail:Acc P G SV) fr hp=some r→∃ frR us,frR.length=(ResultVar.cell i t :: vs).length∧us.length=(ResultVar.cell i t :: vs).length∧(∀ j,VR β hp w N (nth frR j) (us.toArray.getD j undef))∧((ResultVar.cell i t :: vs).mapM (resOne tm)).run P w=.ok us w∧K frR=some z:=by
      intro g1 g2 g3 g4 h1
      obtain ⟨hver,h1⟩:=cond_fail h1
      have hver:ver=0:=Nat.eq_of_beq_eq_true hver
      obtain ⟨off,hi,e⟩:=k4 (by rw [g4];exact hver)
      obtain ⟨sv,cs,hc,hcell,h1⟩:=h.place rfl g1 g3 g2 hi h1
      cases h1
      have hl:=run_loadVar' ht w ⟨(β id).blk,off,none⟩ cs hc.len hcell
      exact cons sv (valOf u' cs) hc.toVR (by simp [resOne,asAddr,e,hl]) hr
     generalize hg:nth hp id=b at *
     split at h1e
     ·exact fail_elim h1e
     ·exact fail_elim h1e
     ·exact fail_elim h1e
     ·exact fail_elim h1e
     ·rename_i n1 n2 n3 n4
      refine go n1 (fun v e=>n2 v e) ?_ ?_ h1e
      ·cases b <;> simp [kindB] <;> exact n4 _ _ _ rfl
      ·cases b <;> first | rfl | exact (n2 _ rfl).elim | exact (n3 _ _ _ _ _ rfl).elim
    | _=>rw [hv] at h1;exact fail_elim h1
theorem Sim.slots (h:Sim G E fr hp tm w β N) {fr':List SV} {tm':Array Value} (hl:tm'.size=fr'.length) (hs:∀ i,VR β hp w N (nth fr' i) (tm'.getD i undef)):Sim G E fr' hp tm' w β N :=
 ⟨hl,hs,h.box,h.apart,h.bnd,h.os,h.tape,h.output,h.size,h.frame,h.keep,h.new,h.ok,h.glob,h.pin⟩
theorem padK_eq {γ:Type}:∀ (xs:List SV) (n:Nat) (K:List SV→γ),padK xs n K=K (xs ++ List.replicate (n - xs.length) (.tup []))
 | [],n,K=>by simp [padK]
 | x :: xs,n,K=>by
  simp only [padK,padK_eq xs,List.length_cons,List.cons_append]
  rw [show n - 1 - xs.length=n - (xs.length + 1) by omega]
theorem run_results {fn:Func} {us:List Value} (h:(fn.results.toList.mapM (resOne tm)).run P w=.ok us w):(results fn tm).run P w=.ok (retVal us) w:=by
 have e:results fn tm=(do
  let vs ← fn.results.mapM (resOne tm)
  pure (if h:vs.size=1 then vs[0] else .tuple vs)):=by
  unfold results
  have:(fun v:ResultVar=>match v with | .tmp t=>(pure (tm.getD t undef):Sem Value) | .cell a t=>do loadVar t (← asAddr (tm.getD a undef)))=resOne tm:=by funext v;cases v <;> rfl
  rw [← this];rfl
 rw [e]
 obtain ⟨l,hl⟩:∃ l,fn.results=⟨l⟩:=⟨fn.results.toList,rfl⟩
 rw [hl] at h ⊢
 simp only [List.mapM_toArray,Sem.run_bind,Sem.run_map]
 rw [h]
 simp only [Result.andThen_ok,Sem.run_pure]
 match us with
 | []=>rfl
 | [v]=>rfl
 | _ :: _ :: _=>rfl
end Ev
end Go.Proofs.YtlfcdmibknmjeaaGreatDoor
namespace Go.Proofs.YtlfcdmibknmjeaaGreatDoor
namespace Ev
open Go Go.RowKit
variable {P:Program} {G:List GV} {w:World} {β:Nat→BI} {N:Reg} {T:Tab}
theorem nth_rep (v:SV):∀ (n i:Nat),nth (List.replicate n v) i=v ∨ nth (List.replicate n v) i=.none
 | 0,_=>.inr rfl
 | _ + 1,0=>.inl rfl
 | n + 1,i + 1=>nth_rep v n i
theorem undef_slot {hp:List SV} (n i:Nat) (v:Value) (hv:v=undef):VR β hp w N (nth (List.replicate n (.tup [])) i) v:=by
 rcases nth_rep (.tup []) n i with k | k
 ·rw [k,hv];exact ⟨[],rfl,rfl,fun i hi=>by cases hi⟩
 ·rw [k];exact True.intro
theorem getD_rep (n i:Nat):(List.replicate n undef).getD i undef=undef:=by
 rw [List.getD_eq_getElem?_getD,List.getElem?_replicate]
 split <;> rfl
theorem nth_app:∀ (xs ys:List SV) (i:Nat),nth (xs ++ ys) i=if i < xs.length then nth xs i else nth ys (i - xs.length)
 | [],ys,i=>by simp
 | x :: xs,ys,0=>by simp [nth]
 | x :: xs,ys,i + 1=>by
  simp only [List.cons_append,nth,List.length_cons,nth_app xs ys i]
  by_cases h:i < xs.length
  ·rw [if_pos h,if_pos (by omega)]
  ·rw [if_neg h,if_neg (by omega)];congr 1;omega
def sigsOk (nh:Nat):List Sig→Bool | []=>true | s :: l=>sigOk .one nh s [] [] && sigsOk nh l
theorem selK_elim {E:Entry} {fr hp:List SV} {tm:Array Value} {nh:Nat} (h:Sim G E fr hp tm w β N):∀ (outs:List Sig),sigsOk nh outs=true→∀ {δ:Type} (K:OutS outs→Option δ) (z:δ),selK (P:=P) (G:=G) outs fr hp K=some z →
 ∃ hp' N' y,Sim G E fr hp' tm w β N'∧(elimS outs y fun sg y=>Stands β hp' w N' tm sg y)∧K y=some z:=by
 have one:∀ (s:Sig) {δ:Type} (K:Tup (sigTys s)→Option δ) (z:δ),sigOk .one nh s [] []=true→runK (P:=P) (G:=G) (capA s fun y=>.pure y) fr hp (fun y _ _=>K y)=some z →
  ∃ hp' N' y,Sim G E fr hp' tm w β N'∧Stands β hp' w N' tm s y∧K y=some z:=by
  intro s δ K z ho hr
  rw [runK_eq] at hr
  cases h1:run (capA s fun y=>.pure y:Acc P G (Tup (sigTys s))) fr hp with
  | none=>rw [h1] at hr;cases hr
  | some r =>
   rw [h1] at hr
   simp only [Option.bind_some] at hr
   obtain ⟨ρ,hp3,N3,y',g,ho',hid,hx,hw,hr2⟩:=capA_elim h ho h1
   cases hr2
   exact ⟨hp3,N3,y',g.sim,⟨ρ,nh,ho',hid,hx,hw⟩,hr⟩
 intro outs
 induction outs with
 | nil=>intro _ δ K z hr;cases hr
 | cons s l ih =>
  intro ho δ K z hr
  simp only [sigsOk,Bool.and_eq_true] at ho
  cases l with
  | nil=>exact one s K z ho.1 hr
  | cons q l =>
   simp only [selK] at hr
   cases hf:fitArgs fr s with
   | true =>
    rw [hf] at hr
    obtain ⟨hp',N',y,k1,k2,k3⟩:=one s (fun y=>K (.inl y)) z ho.1 hr
    exact ⟨hp',N',.inl y,k1,k2,k3⟩
   | false =>
    rw [hf] at hr
    obtain ⟨hp',N',y,k1,k2,k3⟩:=ih ho.2 (fun y=>K (.inr y)) z hr
    exact ⟨hp',N',.inr y,k1,k2,k3⟩
theorem contract (hm:P.follows .mixedOrders=true) (hT:tabChk P T=true) {id:FuncId} {fn:Func} (hf:P.funcs[id]?=some fn) (hcall:callable P id=true) {env:List (Kn P G)} {L:List LAt} {C:List CutAt} {n nh m:Nat} {hd:Sig} {outs:List Sig} (hC:cutsOk nh (sigPins hd) C=true)
 (hn:n ≤ fn.ntmps) (hm2:fn.results.size=m) (hout:sigsOk nh outs=true) (hL:LoopsOk P G fn.ntmps nh (sigPins hd) L (fn.body.getD .skip) 0) {f:Tup (sigTys hd)→Option (OutS outs)} (he:∀ x,fnK T env L C fn n nh hd outs x=f x):Contract P G id n nh hd m outs f:=by
 refine ⟨hcall,fun E w N β fr hp vs x y hy hvs hpin hres hsim=>?_⟩
 have hbody:fn.body=some (fn.body.getD .skip):=by
  unfold callable at hcall
  rw [hf] at hcall
  simp only [Bool.and_eq_true] at hcall
  cases hb:fn.body with
  | none=>rw [hb] at hcall;simp at hcall
  | some c=>rfl
 rw [← he x] at hy
 unfold fnK at hy
 have hres2:∀ {γ:Type} (K:List SV→List SV→γ),resK (fun i=>i) (fun _=>0) hd x (List.replicate n .none) (List.replicate nh .none) K=K fr hp:=by
  intro γ K
  have nat:∀ {γ δ:Type} (F:γ→δ) (K:List SV→List SV→γ) (sg:Sig) (x:Tup (sigTys sg)) (fr hp:List SV),F (resK (fun i=>i) (fun _=>0) sg x fr hp K)=resK (fun i=>i) (fun _=>0) sg x fr hp (fun fr hp=>F (K fr hp)):=by
   intro γ δ F K sg
   have natS:∀ (sh:Sh) (x:Tup sh.tys) (hp:List SV) (K:List SV→SV→List SV→γ),F (resSh (fun i=>i) (fun _=>0) sh x hp K)=resSh (fun i=>i) (fun _=>0) sh x hp (fun a b c=>F (K a b c)):=by
    intro sh
    induction sh with
    | own id s e t=>intro x hp K;simp only [resSh,forceN_eq,putK_eq]
    | alias id=>intro x hp K;simp only [resSh,forceN_eq]
    | ptr id p t=>intro x hp K;simp only [resSh,forceN_eq]
    | mp id k v=>intro x hp K;simp only [resSh,forceN_eq,putK_eq]
    | malias id=>intro x hp K;simp only [resSh,forceN_eq]
    | agg t c ih=>intro x hp K;exact ih x hp _
    | acons a b iha ihb =>
     intro x hp K
     simp only [resSh]
     rw [iha]
     congr 1
     funext hp v _
     exact ihb _ hp _
    | _=>intro x hp K;rfl
   induction sg with
   | nil=>intro x fr hp;rfl
   | cons m l ih =>
    intro x fr hp
    simp only [resK]
    rw [natS]
    congr 1
    funext hp v _
    cases m.box with
    | false=>simp only [putK_eq];exact ih _ _ _
    | true=>simp only [forceN_eq,putK_eq];exact ih _ _ _
  have h2:=nat (fun r:Option (List SV × List SV)=>match r with | some (a,b)=>K a b | none=>K [] []) (fun fr hp=>some (fr,hp)) hd x (List.replicate n .none) (List.replicate nh .none)
  rw [hres] at h2
  exact h2.symm
 rw [hres2,padK_eq] at hy
 have hfl:fr.length=n:=by rw [← hsim.len];simp [hvs]
 have htm:∀ i,(vs.toArray ++ Array.replicate (fn.ntmps - vs.toArray.size) undef).getD i undef=(vs ++ List.replicate (fn.ntmps - vs.length) undef).getD i undef:=fun i=>by
  rw [Array.getD_eq_getD_getElem?,List.getD_eq_getElem?_getD]
  congr 1
  simp [← Array.getElem?_toList]
 have hsim2:Sim G E (fr ++ List.replicate (fn.ntmps - fr.length) (.tup [])) hp (vs.toArray ++ Array.replicate (fn.ntmps - vs.toArray.size) undef) w β N:=by
  refine hsim.slots (by simp [hfl,hvs]) fun i=>?_
  rw [htm,nth_app]
  split
  ·rename_i hi
   have:=hsim.slot i
   rw [List.getD_eq_getElem?_getD,List.getElem?_append_left (by omega),← List.getD_eq_getElem?_getD]
   rw [show vs.toArray.getD i undef=vs.getD i undef by simp [List.getD_eq_getElem?_getD,Array.getD_eq_getD_getElem?]] at this
   exact this
  ·rename_i hi
   refine undef_slot _ _ _ ?_
   rw [List.getD_eq_getElem?_getD,List.getElem?_append_right (by omega),← List.getD_eq_getElem?_getD,getD_rep]
 refine calls_of_wp hf hbody ?_
 refine code_sound hm hT (pn:=sigPins hd) hpin hC (d:=[]) (E:=E) (fn.body.getD .skip) 0 _ _ _ y _ w _ hL (by simp [hfl];omega) ⟨rfl,β,N,hsim2⟩ hy fun e fr2 hp2 a2 w2 hn2 he2 hk=>?_
 obtain ⟨hdd,β2,N2,hs2⟩:=he2
 have fin:resFr (P:=P) (G:=G) T fn.results.toList fr2 hp2 (fun fr=>selK (P:=P) (G:=G) outs fr hp2 some)=some y→a2.defers=[]∧∃ v,(results fn a2.tmps).run P w2=.ok v w2∧∃ us fr' hp' β' N',Ending.returned v=.returned (retVal us)∧us.length=m∧Sim G E fr' hp' us.toArray w2 β' N'∧elimS outs y fun sg y=>Stands β' hp' w2 N' us.toArray sg y:=by
  intro hk
  obtain ⟨frR,us,r1,r1',r2,r3,hk⟩:=resFr_elim hT hs2 _ _ _ hk
  have hs3:=hs2.slots (fr':=frR) (tm':=us.toArray) (by simp [r1,r1']) r2
  obtain ⟨hp3,N3,y',k1,k2,k3⟩:=selK_elim hs3 outs hout some y hk
  cases k3
  exact ⟨hdd,_,run_results r3,_,frR,hp3,β2,N3,rfl,by rw [r1'];simpa using hm2,k1,k2⟩
 cases e with
 | normal=>exact fin hk
 | ret=>exact fin hk
 | exit j=>cases hk
def loopsAt:Code→Nat→List (Nat × Code)
 | .seq a b,p=>loopsAt a p ++ loopsAt b p
 | .cond _ a b,p=>loopsAt a p ++ loopsAt b p
 | .block i b,_=>loopsAt b i
 | .loop b,p=>(p,b) :: loopsAt b p
 | _,_=>[]
def loopIds:Code→Nat→List Nat
 | .seq a b,p=>loopIds a p ++ loopIds b p
 | .cond _ a b,p=>loopIds a p ++ loopIds b p
 | .block i b,_=>loopIds b i
 | .loop b,p=>p :: loopIds b p
 | _,_=>[]
theorem loopIds_eq:∀ (c:Code) (p:Nat),loopIds c p=(loopsAt c p).map (·.1):=by
 intro c
 induction c with
 | seq a b iha ihb=>intro p;simp [loopIds,loopsAt,iha,ihb]
 | cond _ a b iha ihb=>intro p;simp [loopIds,loopsAt,iha,ihb]
 | block i b ih=>intro p;exact ih i
 | loop b ih=>intro p;simp [loopIds,loopsAt,ih]
 | _=>intro p;rfl
def lookB:List (Nat × Code)→Nat→Option Code
 | [],_=>none
 | x :: l,n=>cond (Nat.beq x.1 n) (some x.2) (lookB l n)
theorem lookB_app:∀ (l m:List (Nat × Code)) (n:Nat),lookB (l ++ m) n=match lookB l n with | some c=>some c | none=>lookB m n
 | [],_,_=>rfl
 | x :: l,m,n=>by
  simp only [List.cons_append,lookB]
  cases Nat.beq x.1 n with
  | true=>rfl
  | false=>exact lookB_app l m n
theorem loopIn_eq:∀ (c:Code) (p n:Nat),loopIn c p n=lookB (loopsAt c p) n:=by
 intro c
 induction c with
 | seq a b iha ihb=>intro p n;simp only [loopIn,loopsAt,lookB_app,iha,ihb];cases lookB (loopsAt a p) n <;> rfl
 | cond _ a b iha ihb=>intro p n;simp only [loopIn,loopsAt,lookB_app,iha,ihb];cases lookB (loopsAt a p) n <;> rfl
 | block i b ih=>intro p n;exact ih i n
 | loop b ih=>intro p n;simp only [loopIn,loopsAt,lookB,ih]
 | _=>intro p n;rfl
def distN:List Nat→Bool | []=>true | x :: l=>!hasN l x && distN l
theorem hasN_mem:∀ (l:List Nat) (n:Nat),n ∈ l→hasN l n=true
 | x :: l,n,h=>by
  rcases List.mem_cons.1 h with rfl | h
  ·exact hasN_cons.2 (.inl rfl)
  ·exact hasN_cons.2 (.inr (hasN_mem l n h))
theorem lookB_mem:∀ (l:List (Nat × Code)),distN (l.map (·.1))=true→∀ x ∈ l,lookB l x.1=some x.2
 | [],_,x,h=>by cases h
 | y :: l,hd,x,h=>by
  simp only [List.map_cons,distN,Bool.and_eq_true,Bool.not_eq_true'] at hd
  simp only [lookB]
  rcases List.mem_cons.1 h with rfl | h
  ·rw [Nat.beq_refl];rfl
  ·cases hb:Nat.beq y.1 x.1 with
   | true =>
    have e:y.1=x.1:=Nat.eq_of_beq_eq_true hb
    have:=hasN_mem _ _ (List.mem_map_of_mem (f:=(·.1)) h)
    rw [e] at hd
    rw [hd.1] at this
    cases this
   | false=>exact lookB_mem l hd.2 x h
theorem loopsAt_in:∀ (c:Code) (p n:Nat) (b:Code),loopIn c p n=some b→∀ x ∈ loopsAt b n,x ∈ loopsAt c p:=by
 intro c
 induction c with
 | seq a b iha ihb =>
  intro p n c h x hx
  simp only [loopIn] at h
  cases ha:loopIn a p n with
  | some c'=>rw [ha] at h;cases h;exact List.mem_append_left _ (iha p n c ha x hx)
  | none=>rw [ha] at h;exact List.mem_append_right _ (ihb p n c h x hx)
 | cond _ a b iha ihb =>
  intro p n c h x hx
  simp only [loopIn] at h
  cases ha:loopIn a p n with
  | some c'=>rw [ha] at h;cases h;exact List.mem_append_left _ (iha p n c ha x hx)
  | none=>rw [ha] at h;exact List.mem_append_right _ (ihb p n c h x hx)
 | block i b ih=>intro p n c h x hx;exact ih i n c h x hx
 | loop b ih =>
  intro p n c h x hx
  simp only [loopIn] at h
  cases hb:Nat.beq p n with
  | true =>
   rw [hb] at h
   cases h
   have e:p=n:=Nat.eq_of_beq_eq_true hb
   subst e
   exact List.mem_cons_of_mem _ hx
  | false=>rw [hb] at h;exact List.mem_cons_of_mem _ (ih p n c h x hx)
 | _=>intro p n c h;cases h
def AllL (P:Program) (G:List GV) (nt nh:Nat) (pn:List Nat) (fn:Func):List LAt→Prop
 | []=>True
 | a :: L=>LoopSound P G nt nh pn a.l (loopOf fn a.id)∧AllL P G nt nh pn fn L
theorem findL_all {nt nh:Nat} {pn:List Nat} {fn:Func}:∀ (L:List LAt),AllL P G nt nh pn fn L→∀ n l,findL L n=some l→LoopSound P G nt nh pn l (loopOf fn n)
 | [],_,_,_,h=>by cases h
 | a :: L,ha,n,l,h=>by
  simp only [findL] at h
  cases hb:Nat.beq a.id n with
  | true =>
   rw [hb] at h
   cases h
   have e:a.id=n:=Nat.eq_of_beq_eq_true hb
   rw [← e]
   exact ha.1
  | false=>rw [hb] at h;exact findL_all L ha.2 n l h
theorem loopsOk_of {nt nh:Nat} {pn:List Nat} {L:List LAt}:∀ (c:Code) (p:Nat),(∀ x ∈ loopsAt c p,∀ l,findL L x.1=some l→LoopSound P G nt nh pn l x.2)→LoopsOk P G nt nh pn L c p:=by
 intro c
 induction c with
 | seq a b iha ihb=>intro p h;exact ⟨iha p fun x hx=>h x (List.mem_append_left _ hx),ihb p fun x hx=>h x (List.mem_append_right _ hx)⟩
 | cond _ a b iha ihb=>intro p h;exact ⟨iha p fun x hx=>h x (List.mem_append_left _ hx),ihb p fun x hx=>h x (List.mem_append_right _ hx)⟩
 | block i b ih=>intro p h;exact ih i h
 | loop b ih=>intro p h;exact fun l hl=>h (p,b) (by simp [loopsAt]) l hl
 | _=>intro p _;exact True.intro
theorem loops_fn {nt nh:Nat} {pn:List Nat} {fn:Func} {L:List LAt} (hd:distN (loopIds (fn.body.getD .skip) 0)=true) (hL:AllL P G nt nh pn fn L):LoopsOk P G nt nh pn L (fn.body.getD .skip) 0:=by
 rw [loopIds_eq] at hd
 refine loopsOk_of _ _ fun x hx l hl=>?_
 have h1:=findL_all L hL x.1 l hl
 unfold loopOf at h1
 rw [loopIn_eq,lookB_mem _ hd x hx] at h1
 exact h1
theorem loops_in {nt nh id:Nat} {pn:List Nat} {fn:Func} {L:List LAt} (hd:distN (loopIds (fn.body.getD .skip) 0)=true) (hL:AllL P G nt nh pn fn L):LoopsOk P G nt nh pn L (loopOf fn id) id:=by
 rw [loopIds_eq] at hd
 cases hb:loopIn (fn.body.getD .skip) 0 id with
 | none =>
  unfold loopOf
  rw [hb]
  exact True.intro
 | some b =>
  have e:loopOf fn id=b:=by unfold loopOf;rw [hb];rfl
  rw [e]
  refine loopsOk_of _ _ fun x hx l hl=>?_
  have h1:=findL_all L hL x.1 l hl
  unfold loopOf at h1
  rw [loopIn_eq,lookB_mem _ hd x (loopsAt_in _ _ _ _ hb x hx)] at h1
  exact h1
end Ev
end Go.Proofs.YtlfcdmibknmjeaaGreatDoor
namespace Go.Proofs.YtlfcdmibknmjeaaGreatDoor
namespace Ev
open Go Go.RowKit Go.ChangeShapes Go.WideShapes Go.Deep
variable {P:Program} {G:List GV}
def Wf:(t:Ty)→t.denote→Prop
 | .int k,x=>(Lit.int k x).wf=true
 | .str,x=>ByteArray.size x ≤ maxLen
 | .pair a b,x=>Wf a x.1∧Wf b x.2
 | .list t,xs=>List.length xs ≤ maxLen∧∀ x ∈ (show List t.denote from xs),Wf t x
 | .arr _ t,xs=>∀ x ∈ (show List t.denote from xs),Wf t x
 | _,_=>True
def Whole (w:World):Reg:=fun b _=>b < w.heap.size
theorem cell_lt {w:World} {a:Addr} {v:Value} (h:w.cell? a=some v):a.block < w.heap.size:=by
 unfold World.cell? at h
 split at h
 ·rename_i hh;exact (Array.getElem?_eq_some_iff.1 hh).1
 ·cases h
def Ty.open_:Ty→Bool | .opq=>false | .pair a b=>a.open_ && b.open_ | .list t=>t.open_ | .arr _ _=>false | _=>true
theorem cellsOf_size {t:Ty} {e:TypeId} (he:tyChk P t none e=true):P.cellsOf e=t.size:=by
 obtain ⟨i,hi,h⟩:=cellsOf_eq he;exact h
theorem trod_open {H:Type} {enc:TypeId × Value→H} {w:World} {base:Nat} {sp:Nat→Bool} {held:Bool}:∀ (t:Ty),t.open_=true →
 (∀ (tid fuel:Nat) (cs:List Value) (x:DataW H × List MemPlace),tyChk P t none tid=true→DataW.trod enc P w base sp held fuel tid cs=some x→∃ y,rel w (Whole w) t y cs∧Wf t y) ∧
 (∀ (fs:List Field) (fuel:Nat) (cs:List Value),Flds P t fs (cs.length - t.size)→t.size ≤ cs.length→(∀ f ∈ fs,∃ x,DataW.trod enc P w base sp held fuel f.type ((cs.drop f.offset).take (P.cellsOf f.type))=some x)→∃ y,rel w (Whole w) t y (cs.drop (cs.length - t.size))∧Wf t y)
 | .int k,_=>⟨fun tid fuel cs x ht h=>by
  obtain ⟨n,rfl,_,hw⟩:=DataW.trod_int (tyChk_int ht) h
  exact ⟨n,rfl,hw⟩,fun _ _ _ h=>h.elim⟩
 | .bool,_=>⟨fun tid fuel cs x ht h=>by
  obtain ⟨n,rfl,_⟩:=DataW.trod_bool (tyChk_bool ht) h
  exact ⟨n,rfl,trivial⟩,fun _ _ _ h=>h.elim⟩
 | .str,_=>⟨fun tid fuel cs x ht h=>by
  obtain ⟨n,rfl,_,hw⟩:=DataW.trod_string (tyChk_str ht) h
  exact ⟨n,rfl,hw⟩,fun _ _ _ h=>h.elim⟩
 | .opq,h=>by cases h
 | .arr _ _,h=>by cases h
 | .unit,_=>⟨fun tid fuel cs x ht h=>by
  obtain ⟨fs,hu,hf⟩:=tyChk_struct ht (by simp) rfl
  obtain ⟨xs,m,_,_,hl,_,_⟩:=DataW.trod_struct hu h
  rw [cellsOf_size ht] at hl
  have:cs=[]:=List.length_eq_zero_iff.1 hl
  exact ⟨(),this,trivial⟩,fun fs fuel cs _ _ _=>⟨(),by show cs.drop (cs.length - 0)=[];simp,trivial⟩⟩
 | .list t,ho=>⟨fun tid fuel cs x ht h=>by
  obtain ⟨e,hu,hte,_⟩:=tyChk_list ht
  rcases open_slice hu h with ⟨rfl,_⟩ | ⟨a,len,cap,m,n,D,Pl,rfl,hb,hl,hm,hmm,_,hel⟩
  ·exact ⟨[],⟨none,0,rfl,Nat.le_refl _,fun i hi=>by cases hi⟩,⟨Nat.zero_le _,fun x hx=>by cases hx⟩⟩
  ·have hlm:len ≤ m:=by rw [hmm];split <;> omega
   rw [cellsOf_size hte] at hel
   have:Inhabited t.denote:=⟨t.zero⟩
   obtain ⟨f,hfx⟩:=choose_lt (n:=len) (p:=fun i (y:t.denote)=>∃ c,rel w (Whole w) t y c∧w.cells? base (a.add (i * t.size)) t.size=some c∧Wf t y) (fun i hi=>by
    obtain ⟨cs',h1,h2⟩:=hel i (by omega)
    obtain ⟨y,h3,h4⟩:=(trod_open t ho).1 e n cs' _ hte h2
    exact ⟨y,cs',h3,h1,h4⟩)
   refine ⟨(List.range len).map f,⟨some a,cap,by simp,by simpa using hl,fun i hi=>?_⟩,⟨by simp;omega,fun y hy=>?_⟩⟩
   ·simp only [List.length_map,List.length_range] at hi
    obtain ⟨c,h1,h2,_⟩:=hfx i hi
    refine ⟨a,c,rfl,by simpa using h1,fun j hj=>?_⟩
    obtain ⟨_,hcl,hcc⟩:=World.cells?_some h2
    have hj':j < t.size:=by omega
    have:=hcc j hj'
    rw [List.getElem?_eq_getElem hj] at this
    exact ⟨cell_lt this,this⟩
   ·obtain ⟨i,hi,rfl⟩:=List.mem_map.1 hy
    exact (hfx i (by simpa using hi)).choose_spec.2.2,fun _ _ _ h=>h.elim⟩
 | .pair a b,ho=>by
  simp only [Ty.open_,Bool.and_eq_true] at ho
  have flds:∀ (fs:List Field) (fuel:Nat) (cs:List Value),Flds P (.pair a b) fs (cs.length - (Ty.pair a b).size)→(Ty.pair a b).size ≤ cs.length→(∀ f ∈ fs,∃ x,DataW.trod enc P w base sp held fuel f.type ((cs.drop f.offset).take (P.cellsOf f.type))=some x) →
   ∃ y,rel w (Whole w) (.pair a b) y (cs.drop (cs.length - (Ty.pair a b).size))∧Wf (.pair a b) y:=by
   intro fs fuel cs hf hle hx
   obtain ⟨f,gs,rfl,f1,f2,f3,f4⟩:=hf
   simp only [Ty.size] at hle f1 f4 ⊢
   obtain ⟨x,h1⟩:=hx f (by simp)
   rw [f1,cellsOf_size f3] at h1
   obtain ⟨y1,k1,k2⟩:=(trod_open a ho.1).1 f.type fuel _ x f3 h1
   obtain ⟨y2,k3,k4⟩:=(trod_open b ho.2).2 gs fuel cs (by rw [show cs.length - b.size=cs.length - (a.size + b.size) + a.size by omega];exact f4) (by omega) (fun g hg=>hx g (by simp [hg]))
   refine ⟨(y1,y2),⟨_,_,?_,k1,k3⟩,k2,k4⟩
   rw [show cs.length - b.size=cs.length - (a.size + b.size) + a.size by omega,← List.drop_drop]
   exact (List.take_append_drop a.size _).symm
  refine ⟨fun tid fuel cs x ht h=>?_,flds⟩
  obtain ⟨fs,hu,hf⟩:=tyChk_struct ht (by simp) rfl
  obtain ⟨xs,m,rfl,_,hl,hxl,hg⟩:=DataW.trod_struct hu h
  rw [cellsOf_size ht] at hl
  have:=flds fs.toList m cs (by rw [hl,Nat.sub_self];exact hf) (by omega) (fun f hf'=>by
   obtain ⟨i,hi,e⟩:=List.getElem_of_mem hf'
   have h1:=hg i f (by rw [← Array.getElem?_toList,List.getElem?_eq_getElem hi,e])
   have hi':i < xs.length:=by rw [hxl];simpa using hi
   rw [List.getElem?_eq_getElem hi'] at h1
   exact ⟨_,h1⟩)
  rw [hl,Nat.sub_self,List.drop_zero] at this
  exact this
theorem row_open {H:Type} {enc:TypeId × Value→H} {w:World} {base:Nat} {sp:Nat→Bool} {held:Bool} {t:Ty} {tid:TypeId} {v:Value} {d:DataW H} {ps:List MemPlace} (hto:t.open_=true) (ht:tyChk P t none tid=true) (hag:t.isAgg=false)
 (hd:DataW.Trod enc P w base sp held tid v d ps) (hv:v.cells=#[v]):∃ y,IsImm w (Whole w) t y v∧Wf t y:=by
 obtain ⟨fuel,hf⟩:=hd
 obtain ⟨y,h1,h2⟩:=(trod_open t hto).1 tid fuel _ _ ht hf
 rw [hv] at h1
 exact ⟨y,⟨_,h1,by unfold valOf;rw [hag];rfl⟩,h2⟩
end Ev
end Go.Proofs.YtlfcdmibknmjeaaGreatDoor
namespace Go.Proofs.YtlfcdmibknmjeaaGreatDoor
namespace Ev
open Go Go.RowKit Go.ChangeShapes Go.WideShapes Go.Deep
variable {P:Program} {G:List GV}
def bi0:BI:=⟨0,undef,.unit⟩
theorem law_calls {id n nh:Nat} {hd:Sig} {f:Tup (sigTys hd)→Option (OutS [[⟨false,0,.imm .bool⟩]])} (hc:Contract P G id n nh hd 1 [[⟨false,0,.imm .bool⟩]] f) {x:Tup (sigTys hd)} {fr:List SV} {vs:List Value} {W:World}
 (hx:f x=some (true:Bool)) (hn:vs.length=n)
 (hr:resK (fun i=>i) (fun _=>0) hd x (List.replicate n .none) (List.replicate nh .none) (fun fr hp=>some (fr,hp))=some (fr,List.replicate nh .none))
 (hl:fr.length=n) (hv:∀ i,VR (fun _=>bi0) (List.replicate nh .none) W (Whole W) (nth fr i) (vs.getD i undef)) (hG:GOk G W (Whole W)) :
 Calls P id vs.toArray W fun e W'=>e=.returned (.bool true)∧Below W.heap.size W W':=by
 have hnone:∀ i,nth (List.replicate nh SV.none) i=.none:=fun i=>by rcases nth_rep .none nh i with h | h <;> exact h
 have hs:Sim G ⟨W,Whole W,fun _=>False,fun _=>Option.none⟩ fr (List.replicate nh .none) vs.toArray W (fun _=>bi0) (Whole W):={
  len:=by simp [hn,hl]
  slot:=fun i=>by simpa using hv i
  box:=fun i=>by rw [hnone];trivial
  apart:=fun i j b h=>by simp [blkOf,hnone,blkB] at h
  bnd:=fun i b h=>by simp [blkOf,hnone,blkB] at h
  os:=rfl
  tape:=rfl
  output:=rfl
  size:=Nat.le_refl _
  frame:=fun _ _ _=>rfl
  keep:=fun b o h=>⟨h,rfl⟩
  new:=fun b o h=>.inl h
  ok:=fun b o h=>h
  glob:=hG
  pin:=fun i x h=>by cases h }
 refine (hc.2 _ W (Whole W) _ fr _ vs x (show OutS [[⟨false,0,.imm .bool⟩]] from (true:Bool)) hx hn (fun i b h=>by cases h) hr hs).mono fun e W' h=>?_
 obtain ⟨us,fr',hp',β',N',rfl,hu,hsim,hst⟩:=h
 match us,hu with
 | [u],_ =>
  obtain ⟨ρ,nh',_,_,⟨hi,_⟩,_⟩:=hst
  obtain ⟨cs,h1,h2⟩:=hi
  have h1:cs=[.bool true]:=h1
  have h2:u=valOf .bool cs:=h2
  rw [h1] at h2
  exact ⟨congrArg Ending.returned h2,⟨hsim.os,hsim.tape,hsim.output,hsim.size,fun b hb=>hsim.frame b hb (fun h=>h)⟩⟩
def litV:Lit→Value
 | .int k n=>.int k n
 | .bool b=>.bool b
 | .string l=>.string ⟨l.toArray⟩
 | _=>undef
def litOf:(t:Ty)→t.denote→Lit
 | .int k,x=>.int k x
 | .bool,x=>.bool x
 | .str,x=>.string (ByteArray.data x).toList
 | _,_=>.bool false
def Ty.scalar:Ty→Bool | .int _ | .bool | .str=>true | _=>false
theorem cells_of_lits {H:Type} {enc:TypeId × Value→H} {w:World} {base:Nat} {sp:Nat→Bool} {held:Bool} {fuel:Nat} {t e:TypeId} {n:Nat} {cs:List Value} {ls:List Lit} {p:List MemPlace}
 (ht:P.underlying t=some (.array n e)) (hce:P.cellsOf e=1) (hct:P.cellsOf t=n)
 (hel:∀ fuel cs x,DataW.trod enc P w base sp held fuel e cs=some x→∃ l,cs=[litV l]∧x=(.lit l,[]))
 (h:DataW.trod enc P w base sp held fuel t cs=some (.agg (ls.map .lit),p)):cs=ls.map litV:=by
 cases fuel with
 | zero=>simp [DataW.trod] at h
 | succ fuel =>
  simp only [DataW.trod,ht,hce,hct,Nat.mul_one] at h
  split at h
  ·rename_i hl
   obtain ⟨xs,hm,hx⟩:=Option.map_eq_some_iff.1 h
   have hxs:xs.map (·.1)=ls.map fun z=>(DataW.lit z:DataW H):=by
    have:=congrArg Prod.fst hx
    simpa using this
   have hxl:xs.length=n:=by simpa using Lib.mapM_length hm
   have hzl:ls.length=n:=by
    have:=congrArg List.length hxs
    simp at this
    omega
   apply List.ext_getElem?
   intro i
   by_cases hi:i < n
   ·obtain ⟨b,hb,hf⟩:=Lib.mapM_at hm i i (by simp [hi])
    obtain ⟨z,hc,rfl⟩:=hel _ _ _ hf
    have h1:cs[i]?=some (litV z):=by
     have:=congrArg (·[0]?) hc
     simpa [List.getElem?_take,List.getElem?_drop] using this
    have h2:(xs.map (·.1))[i]?=some (DataW.lit z:DataW H):=by simp [hb]
    rw [hxs] at h2
    simp only [List.getElem?_map,Option.map_eq_some_iff,DataW.lit.injEq] at h2
    obtain ⟨z',hz',rfl⟩:=h2
    simp [h1,hz']
   ·rw [List.getElem?_eq_none (by omega),List.getElem?_eq_none (by simp;omega)]
  ·cases h
theorem lit_int {H:Type} {enc:TypeId × Value→H} {w:World} {base:Nat} {sp:Nat→Bool} {held:Bool} {e:TypeId} {k:IntKind} (he:P.underlying e=some (.int k)) :
 ∀ fuel cs x,DataW.trod enc P w base sp held fuel e cs=some x→∃ l,cs=[litV l]∧x=(.lit l,[]):=fun _ _ _ h=>by
 obtain ⟨n,h1,h2,_⟩:=DataW.trod_int he h
 exact ⟨.int k n,h1,h2⟩
theorem rel_lit {w:World} {N:Reg}:∀ {t:Ty},t.scalar=true→∀ x:t.denote,rel w N t x [litV (litOf t x)]
 | .int _,_,_=>rfl
 | .bool,_,_=>rfl
 | .str,_,x=>by show [_]=[_];simp [litOf,litV]
theorem flat_one {α β:Type} (f:α→β):∀ l:List α,(l.map fun y=>[f y]).flatten=l.map f
 | []=>rfl
 | x :: l=>by simp [flat_one f l]
theorem gok_lits {n:Nat} {t:Ty} {xs:List t.denote} {w:World} {g:Nat} {nm:String} {cs:Array Value} (ht:t.scalar=true) (hn:xs.length=n) (hg:P.globalNamed nm=some g) (hv:w.var? P nm=some cs)
 (hcs:cs.toList=(xs.map (litOf t)).map litV):∃ cs',rel w (Whole w) (.arr n t) xs cs'∧At w (Whole w) ⟨g,0,none⟩ cs':=by
 refine ⟨(xs.map (litOf t)).map litV,⟨hn,xs.map fun y=>[litV (litOf t y)],?_,by simpa using hn,fun i h h'=>?_⟩,fun j hj=>?_⟩
 ·rw [flat_one (fun y=>litV (litOf t y))];simp
 ·simp only [List.getElem_map];exact rel_lit ht _
 ·have h1:=World.var?_cell hg hv j
  rw [← Array.getElem?_toList,hcs,List.getElem?_eq_getElem hj] at h1
  have h2:(Addr.add ⟨g,0,none⟩ j)=⟨g,j,none⟩:=by simp [Addr.add];omega
  rw [h2]
  exact ⟨cell_lt h1,h1⟩
end Ev
end Go.Proofs.YtlfcdmibknmjeaaGreatDoor
namespace Go.Proofs.YtlfcdmibknmjeaaGreatDoor
namespace Ev
open Go
def Evw {α:Type} (p:Nat→Option α) (Q:α→Prop):Prop:=∃ x,Q x∧∃ K,∀ k,K ≤ k→p k=some x
section
variable {α β γ:Type} {p:Nat→Option α} {Q R:α→Prop} {S:β→Prop} {x:α}
theorem Evw.pure (h:Q x):Evw (fun _=>some x) Q:=⟨x,h,0,fun _ _=>rfl⟩
theorem Evw.const {o:Option α} (e:o=some x) (h:Q x):Evw (fun _=>o) Q:=⟨x,h,0,fun _ _=>e⟩
theorem Evw.mono (h:Evw p Q) (hQ:∀ x,Q x→R x):Evw p R:=by
 obtain ⟨x,hx,K,hK⟩:=h
 exact ⟨x,hQ x hx,K,hK⟩
theorem Evw.bind {q:Nat→α→Option β} (h:Evw p R) (hq:∀ x,R x→Evw (fun k=>q k x) S):Evw (fun k=>Option.bind (p k) (q k)) S:=by
 obtain ⟨x,hx,K,hK⟩:=h
 obtain ⟨y,hy,K',hK'⟩:=hq x hx
 exact ⟨y,hy,max K K',fun k hk=>by show Option.bind (p k) (q k)=_;rw [hK k (by omega)];exact hK' k (by omega)⟩
theorem Evw.cond {c:Bool} {p q:Nat→Option α} (h:c=true→Evw p Q) (h':c=false→Evw q Q):Evw (fun k=>_root_.cond c (p k) (q k)) Q:=by
 cases c with
 | true=>exact h rfl
 | false=>exact h' rfl
theorem Evw.ct {c:Bool} {p q:Nat→Option α} (hc:c=true) (h:Evw p Q):Evw (fun k=>_root_.cond c (p k) (q k)) Q:=by subst hc;exact h
theorem Evw.cf {c:Bool} {p q:Nat→Option α} (hc:c=false) (h:Evw q Q):Evw (fun k=>_root_.cond c (p k) (q k)) Q:=by subst hc;exact h
theorem Evw.dt {c:Prop} [Decidable c] {p q:Nat→Option α} (hc:c) (h:Evw p Q):Evw (fun k=>_root_.cond (decide c) (p k) (q k)) Q:=.ct (by simpa using hc) h
theorem Evw.df {c:Prop} [Decidable c] {p q:Nat→Option α} (hc:¬ c) (h:Evw q Q):Evw (fun k=>_root_.cond (decide c) (p k) (q k)) Q:=.cf (by simpa using hc) h
theorem Evw.dec {c:Prop} [Decidable c] {p q:Nat→Option α} (h:c→Evw p Q) (h':¬ c→Evw q Q):Evw (fun k=>_root_.cond (decide c) (p k) (q k)) Q:=.cond (fun e=>h (by simpa using e)) (fun e=>h' (by simpa using e))
theorem Evw.succ (h:Evw (fun k=>p (k + 1)) Q):Evw p Q:=by
 obtain ⟨x,hx,K,hK⟩:=h
 exact ⟨x,hx,K + 1,fun k hk=>by have:p (k - 1 + 1)=_:=hK (k - 1) (by omega);rwa [show k - 1 + 1=k by omega] at this⟩
theorem Evw.get {x:α} (h:Evw p (·=x)):∃ K,∀ k,K ≤ k→p k=Option.some x:=by
 obtain ⟨y,rfl,K,hK⟩:=h
 exact ⟨K,hK⟩
theorem Evw.of {x:α} {K:Nat} (h:∀ k,p (k + K)=some x):Evw p (·=x):=⟨x,rfl,K,fun k hk=>by have:=h (k - K);rwa [show k - K + K=k by omega] at this⟩
theorem Evw.eq {y:α} (h:Evw p Q) (h':Evw p (·=y)):Q y:=by
 obtain ⟨x,hx,K,hK⟩:=h
 obtain ⟨_,rfl,K',hK'⟩:=h'
 have h1:=hK (max K K') (by omega)
 rw [hK' (max K K') (by omega)] at h1
 cases h1
 exact hx
end
theorem kb {α β:Type} {o:Option α} {y:α} {q:Nat→α→Option β} {S:β→Prop} (e:o=some y) (h:Evw (fun k=>q k y) S):Evw (fun k=>Option.bind o (q k)) S:=by rw [e];exact h
theorem Evw.andc {c b:Bool} {p:Nat→Option Bool} (h:c=true→Evw p (·=b)):Evw (fun k=>_root_.cond c (p k) (some false)) (·=(c && b)):=by
 cases c with
 | true=>exact h rfl
 | false=>exact .pure rfl
theorem Evw.bindv {α β:Type} {p:Nat→Option α} {x:α} {q:Nat→α→Option β} {y:β} (h:Evw p (·=x)) (hq:Evw (fun k=>q k x) (·=y)):Evw (fun k=>Option.bind (p k) (q k)) (·=y):=.bind h fun z hz=>by subst hz;exact hq
theorem Evw.condv {α:Type} {c:Bool} {p q:Nat→Option α} {x y:α} (h:Evw p (·=x)) (h':Evw q (·=y)):Evw (fun k=>_root_.cond c (p k) (q k)) (·=_root_.cond c x y):=by cases c <;> assumption
theorem Evw.ret {α:Type} {p:Nat→Option α} {x:α} (h:Evw p (·=x)):Evw (fun k=>Option.bind (p k) fun y=>some y) (·=x):=.bindv h (.pure rfl)
theorem Evw.notc {c b:Bool} {p:Nat→Option Bool} (h:c=true→Evw p (·=b)):Evw (fun k=>_root_.cond (!c) (some false) (p k)) (·=(c && b)):=by
 cases c with
 | true=>exact h rfl
 | false=>exact .pure rfl
theorem wrap64 {n:Int} (h:-9223372036854775808 ≤ n) (h':n ≤ 9223372036854775807):IntKind.wrap .i64 n=n:=by rw [IntKind.wrap_i64];omega
end Ev
end Go.Proofs.YtlfcdmibknmjeaaGreatDoor
namespace Go.Proofs.YtlfcdmibknmjeaaGreatDoor
namespace Ev
open Go
noncomputable def lim {α:Type} (p:Nat→Option α):Option α:=open Classical in if h:∃ x,Evw p (·=x) then some h.choose else none
section
variable {α β γ:Type} {p:Nat→Option α} {x:α}
theorem Evw.uniq {x y:α} (h:Evw p (·=x)) (h':Evw p (·=y)):x=y:=by
 obtain ⟨_,rfl,K,hK⟩:=h
 obtain ⟨_,rfl,K',hK'⟩:=h'
 have h1:=hK (max K K') (by omega)
 rw [hK' (max K K') (by omega)] at h1
 exact (Option.some.inj h1).symm
theorem lim_iff:lim p=some x ↔ Evw p (·=x):=by
 unfold lim
 constructor
 ·intro e
  by_cases h:∃ y,Evw p (·=y)
  ·rw [dif_pos h] at e
   rw [← Option.some.inj e]
   exact h.choose_spec
  ·rw [dif_neg h] at e
   cases e
 ·intro e
  have h:∃ y,Evw p (·=y):=⟨x,e⟩
  rw [dif_pos h,Evw.uniq h.choose_spec e]
def Le (o:Option α) (p:Nat→Option α):Prop:=∀ x,o=some x→Evw p (·=x)
theorem Le.v {o:Option α} (h:Le o p) {x:α} (e:o=some x):lim p=some x:=lim_iff.2 (h x e)
theorem Le.const {o:Option α}:Le o fun _=>o:=fun _ e=>.const e rfl
theorem Le.lim:Le (lim p) p:=fun _ e=>lim_iff.1 e
theorem Le.of {o:Option α} (h:o=Ev.lim p):Le o p:=fun _ e=>lim_iff.1 (h ▸ e)
theorem Le.bind {o:Option α} {r:α→Option β} {q:Nat→α→Option β} (h:Le o p) (h':∀ x,Le (r x) fun k=>q k x):Le (Option.bind o r) fun k=>Option.bind (p k) (q k):=by
 intro y e
 cases ho:o with
 | none=>rw [ho] at e;cases e
 | some x=>rw [ho] at e;exact .bind (h x ho) fun z hz=>by subst hz;exact h' _ _ e
theorem Le.cond {c:Bool} {o o':Option α} {p':Nat→Option α} (h:Le o p) (h':Le o' p'):Le (_root_.cond c o o') fun k=>_root_.cond c (p k) (p' k):=by cases c <;> assumption
theorem Le.elim {s:β ⊕ γ} {o:β→Option α} {o':γ→Option α} {p:Nat→β→Option α} {p':Nat→γ→Option α} (h:∀ x,Le (o x) fun k=>p k x) (h':∀ x,Le (o' x) fun k=>p' k x):Le (Sum.elim o o' s) fun k=>Sum.elim (p k) (p' k) s:=by
 cases s with
 | inl x=>exact h x
 | inr x=>exact h' x
theorem Le.succ {o:Option α} (h:Le o fun k=>p (k + 1)):Le o p:=fun x e=>.succ (h x e)
end
def Evw2 {α:Type} (p:Nat→Nat→Option α) (x:α):Prop:=∃ K,∀ j k,K ≤ j→K ≤ k→p j k=some x
noncomputable def lim2 {α:Type} (p:Nat→Nat→Option α):Option α:=open Classical in if h:∃ x,Evw2 p x then some h.choose else none
section
variable {α β γ:Type} {p:Nat→Nat→Option α} {x:α}
theorem lim2_iff:lim2 p=some x ↔ Evw2 p x:=by
 unfold lim2
 constructor
 ·intro e
  by_cases h:∃ y,Evw2 p y
  ·rw [dif_pos h] at e
   rw [← Option.some.inj e]
   exact h.choose_spec
  ·rw [dif_neg h] at e
   cases e
 ·intro e
  have h:∃ y,Evw2 p y:=⟨x,e⟩
  rw [dif_pos h]
  obtain ⟨K,hK⟩:=h.choose_spec
  obtain ⟨K',hK'⟩:=e
  have h1:=hK (max K K') (max K K') (by omega) (by omega)
  rw [hK' (max K K') (max K K') (by omega) (by omega)] at h1
  exact h1.symm
def Le2 (o:Option α) (p:Nat→Nat→Option α):Prop:=∀ x,o=some x→Evw2 p x
theorem Le2.v {o:Option α} (h:Le2 o p) {x:α} (e:o=some x):lim2 p=some x:=lim2_iff.2 (h x e)
theorem Le2.const {o:Option α}:Le2 o fun _ _=>o:=fun _ e=>⟨0,fun _ _ _ _=>e⟩
theorem Le2.of {o:Option α} (h:o=lim2 p):Le2 o p:=fun _ e=>lim2_iff.1 (h ▸ e)
theorem Le2.fst {o:Option α} {p:Nat→Option α} (h:Le o p):Le2 o fun j _=>p j:=fun x e=>by
 obtain ⟨_,rfl,K,hK⟩:=h x e
 exact ⟨K,fun j _ hj _=>hK j hj⟩
theorem Le2.snd {o:Option α} {p:Nat→Option α} (h:Le o p):Le2 o fun _ k=>p k:=fun x e=>by
 obtain ⟨_,rfl,K,hK⟩:=h x e
 exact ⟨K,fun _ k _ hk=>hK k hk⟩
theorem Le2.diag {o:Option α} (h:Le2 o p):Le o fun k=>p k k:=fun x e=>by
 obtain ⟨K,hK⟩:=h x e
 exact ⟨x,rfl,K,fun k hk=>hK k k hk hk⟩
theorem Le2.bind {o:Option α} {r:α→Option β} {q:Nat→Nat→α→Option β} (h:Le2 o p) (h':∀ x,Le2 (r x) fun j k=>q j k x):Le2 (Option.bind o r) fun j k=>Option.bind (p j k) (q j k):=by
 intro y e
 cases ho:o with
 | none=>rw [ho] at e;cases e
 | some x =>
  rw [ho] at e
  obtain ⟨K,hK⟩:=h x ho
  obtain ⟨K',hK'⟩:=h' x y e
  exact ⟨max K K',fun j k hj hk=>by show Option.bind (p j k) (q j k)=_;rw [hK j k (by omega) (by omega)];exact hK' j k (by omega) (by omega)⟩
theorem Le2.cond {c:Bool} {o o':Option α} {p':Nat→Nat→Option α} (h:Le2 o p) (h':Le2 o' p'):Le2 (_root_.cond c o o') fun j k=>_root_.cond c (p j k) (p' j k):=by cases c <;> assumption
theorem Le2.elim {s:β ⊕ γ} {o:β→Option α} {o':γ→Option α} {p:Nat→Nat→β→Option α} {p':Nat→Nat→γ→Option α} (h:∀ x,Le2 (o x) fun j k=>p j k x) (h':∀ x,Le2 (o' x) fun j k=>p' j k x):Le2 (Sum.elim o o' s) fun j k=>Sum.elim (p j k) (p' j k) s:=by
 cases s with
 | inl x=>exact h x
 | inr x=>exact h' x
theorem Le2.succ {o:Option α} (h:Le2 o fun j k=>p j (k + 1)):Le2 o p:=fun x e=>by
 obtain ⟨K,hK⟩:=h x e
 exact ⟨K + 1,fun j k hj hk=>by have:p j (k - 1 + 1)=_:=hK j (k - 1) (by omega) (by omega);rwa [show k - 1 + 1=k by omega] at this⟩
end
theorem dt' {c:Prop} [Decidable c] (h:c):decide c=true:=by simpa using h
theorem df' {c:Prop} [Decidable c] (h:¬ c):decide c=false:=by simpa using h
end Ev
end Go.Proofs.YtlfcdmibknmjeaaGreatDoor
