import Derived.Test.YtlfcdmibknmjeaaGreatDoorYEvA0
import Derived.Laws.BytesArg
import Derived.MapKept
namespace Go.Proofs.YtlfcdmibknmjeaaGreatDoor
namespace Ev
open Go Go.RowKit
variable {P:Program} {G:List GV} {E:Entry} {fr hp:List SV} {w:World} {β:Nat→BI} {N:Reg} {r:Unit × List SV × List SV} {a:Act} {o:Oper} {T:Tab}
theorem wrB_elim {id:Nat} {b:SV} {k:U P G} (hr:run (wrB id b k) fr hp=some r) (hb:b ≠ .none):id < hp.length∧run k fr (put hp id b)=some r:=by
 simp only [wrB,run,if_true] at hr
 rcases Nat.lt_or_ge id hp.length with h | h
 ·refine ⟨h,?_⟩
  rw [nth_put_eq _ _ _ h] at hr
  split at hr
  ·exact (hb rfl).elim
  ·exact hr
 ·rw [put_far _ _ _ h,nth_far _ _ h] at hr
  exact fail_elim hr
theorem heap_new (w:World) (ob:Obj):(w.alloc ob).heap[w.heap.size]?=some ob:=by
 show (w.heap.push ob)[w.heap.size]?=_
 simp
theorem size_alloc (w:World) (ob:Obj):(w.alloc ob).heap.size=w.heap.size + 1:=by
 show (w.heap.push ob).size=_
 simp
theorem ext_alloc (w:World) (ob:Obj) (hN:∀ b o,N b o→b < w.heap.size):Ext w N (w.alloc ob) N:=fun b o hb=>⟨hb,by
 unfold World.cell?
 rw [Below.heap_alloc w ob b (hN b o hb)]⟩
theorem Sim.alloc (h:Sim G E fr hp a.tmps w β N) {id:Nat} {b:SV} {t:Ty} {cs:List Value} {e:TypeId} (hn:nth hp id=.none) (hin:id < hp.length) (hc:CR β hp w N t false b [] cs) :
 ∃ x,x.blk=w.heap.size∧x.bt=t∧Sim G E fr (put hp id b) a.tmps (w.alloc (.cells cs.toArray e)) (upd β id x) N∧Later β hp (upd β id x) (put hp id b)∧Ext w N (w.alloc (.cells cs.toArray e)) N∧b ≠ .none∧bver b=0∧∀ p,inBox t b p=pathOff t p:=by
 let x:BI:=⟨w.heap.size,.tuple #[],t⟩
 have hbn:b ≠ .none∧bver b=0∧(∀ y,blkB y b=some y.blk)∧(∀ p,inBox t b p=pathOff t p) ∧
  ∀ β' hp' w' N' i,BR β' hp' w' N' i b=∃ cs e,w'.heap[(β' i).blk]?=some (.cells cs.toArray e (0,0))∧CR β' hp' w' N' (β' i).bt false b [] cs∧∀ o,¬ N' (β' i).blk o:=by
  cases b with
  | none=>cases t <;> exact (hc:False).elim
  | row v1 v2 v3 v4 v5=>cases t <;> exact (hc:False).elim
  | mp v1 v2 v3=>cases t <;> exact (hc:False).elim
  | dead v1=>cases t <;> exact (hc:False).elim
  | _=>exact ⟨by simp,rfl,fun _=>rfl,fun _=>rfl,fun _ _ _ _ _=>rfl⟩
 obtain ⟨h1,h2,h3,h4,h5⟩:=hbn
 have hE:Ext w N (w.alloc (.cells cs.toArray e)) N:=ext_alloc w _ h.ok
 have hno:∀ g,blkOf β hp id ≠ some g:=fun g hg=>by unfold blkOf at hg;rw [hn] at hg;cases hg
 have ht:Turn β hp w N id x b (w.alloc (.cells cs.toArray e)) N:=by
  refine ⟨hin,h1,.inl hn,hE,fun i _ g hg=>⟨Below.heap_alloc w _ g (h.bnd _ _ hg).1,fun _ ho=>ho⟩,fun g hg=>?_,fun k hk _=>Below.heap_alloc w _ k hk,rfl,rfl,rfl,by rw [size_alloc];omega,fun c o ho=>.inl ho,fun c o ho=>by rw [size_alloc];have:=h.ok c o ho;omega⟩
  rw [h3] at hg
  cases hg
  exact ⟨.inr (Nat.le_refl _),by rw [size_alloc];exact Nat.lt_succ_self _⟩
 refine ⟨x,rfl,rfl,h.turn ht ?_,ht.later,hE,h1,h2,h4⟩
 rw [h5]
 refine ⟨cs,e,by rw [upd_eq];exact heap_new w _,?_,fun o ho=>?_⟩
 ·rw [upd_eq]
  exact CR.later ht.later hE _ _ _ _ _ hc
 ·rw [upd_eq] at ho
  exact Nat.lt_irrefl _ (h.ok _ _ ho)
theorem vptr {id:Nat} {x:BI} {b:SV} {t:Ty} (hb:b ≠ .none) (_h0:bver b=0) (hi:inBox x.bt b []=some (0,t)) (hin:id < hp.length) {w':World} :
 VR (upd β id x) (put hp id b) w' N (.ptr id 0 [] t) (.pointer (some ⟨x.blk,0,none⟩)):=by
 refine (⟨by rw [nth_put_eq _ _ _ hin];exact hb,Nat.zero_le _,⟨_,rfl⟩,fun _=>⟨0,by rw [nth_put_eq _ _ _ hin,upd_eq];exact hi,by rw [upd_eq]⟩⟩ :
  nth (put hp id b) id ≠ .none∧0 ≤ bver (nth (put hp id b) id)∧(∃ ad,Value.pointer (some ⟨x.blk,0,none⟩)=.pointer (some ad))∧(0=bver (nth (put hp id b) id)→∃ o,inBox (upd β id x id).bt (nth (put hp id b) id) []=some (o,t)∧Value.pointer (some ⟨x.blk,0,none⟩)=.pointer (some ⟨(upd β id x id).blk,o,none⟩)))
theorem op_box (hT:tabChk P T=true) {t:TypeId} {x:Operand} (ho:o.op=.box t x) (h:Sim G E fr hp a.tmps w β N)
 (hr:run (tyA T t fun t=>rdO x fun x=>fitA t x (match o.dst with
  | some d=>.rd true d fun b=>(match b with | .none=>wrB d x (setD o.dst (.ptr d 0 [] t) (.pure ())) | _=>.fail)
  | none=>.fail):U P G) fr hp=some r):Does P o a w (After G E a r):=by
 obtain ⟨t',ht,hr⟩:=tyA_elim hT hr
 obtain ⟨v,hv,hr⟩:=rdO_elim h hr
 obtain ⟨hc,e,hr⟩:=fitA_elim hr hv
 cases hd:o.dst with
 | none=>rw [hd] at hr;exact fail_elim hr
 | some d =>
  rw [hd] at hr
  simp only [run,if_true] at hr
  split at hr
  ·rename_i hn
   have hbn:v ≠ .none:=by rintro rfl;cases t' <;> exact (hc:False).elim
   obtain ⟨hin,hr⟩:=wrB_elim hr hbn
   obtain ⟨y,y1,y2,hs,hL,hE,h1,h2,h3⟩:=h.alloc (e:=t) hn hin hc
   refine does_val (u:=.pointer (some ⟨w.heap.size,0,none⟩)) (w':=w.alloc (.cells (a.eval x).cells.toList.toArray t)) ?_ hs ?_ (by rw [hd];exact hr)
   ·unfold execOp;rw [ho]
    simp [Instr.box,newVar,Go.newRow]
   ·rw [← y1]
    exact vptr h1 h2 (by rw [y2,h3];rfl) hin
  ·exact fail_elim hr
theorem op_alloc (hT:tabChk P T=true) {t:TypeId} (ho:o.op=.alloc t) (h:Sim G E fr hp a.tmps w β N)
 (hr:run (tyA T t fun t=>zeroA t fun v=>(match o.dst with
  | some d=>.rd true d fun b=>(match b with | .none=>wrB d v (setD o.dst (.ptr d 0 [] t) (.pure ())) | _=>.fail)
  | none=>.fail):U P G) fr hp=some r):Does P o a w (After G E a r):=by
 obtain ⟨t',ht,hr⟩:=tyA_elim hT hr
 obtain ⟨z,hz,hzc⟩:=run_zero ht w
 obtain ⟨v,hc,hr⟩:=zeroA_elim (β:=β) (hp:=hp) (w:=w) (N:=N) t' _ _ hzc hr
 cases hd:o.dst with
 | none=>rw [hd] at hr;exact fail_elim hr
 | some d =>
  rw [hd] at hr
  simp only [run,if_true] at hr
  split at hr
  ·rename_i hn
   have hbn:v ≠ .none:=by rintro rfl;cases t' <;> exact (hc:False).elim
   obtain ⟨hin,hr⟩:=wrB_elim hr hbn
   obtain ⟨y,y1,y2,hs,hL,hE,h1,h2,h3⟩:=h.alloc (e:=t) hn hin hc
   refine does_val (u:=.pointer (some ⟨w.heap.size,0,none⟩)) (w':=w.alloc (.cells z.cells.toList.toArray t)) ?_ hs ?_ (by rw [hd];exact hr)
   ·unfold execOp;rw [ho]
    simp [Instr.alloc,hz,newVar,Go.newRow]
   ·rw [← y1]
    exact vptr h1 h2 (by rw [y2,h3];rfl) hin
  ·exact fail_elim hr
theorem cell_block {g:Nat} {cs:List Value} {e:TypeId} {f:Nat × Nat} (hg:w.heap[g]?=some (.cells cs.toArray e f)) (k:Nat):w.cell? ⟨g,k,none⟩=cs[k]?:=by
 simp [World.cell?,hg]
theorem sub_get {cs:List Value} {o n j:Nat} (hj:j < (sub cs o n).length):cs[o + j]?=some (sub cs o n)[j]:=by
 have hl:(sub cs o n).length ≤ n:=by simp [sub];omega
 have:(sub cs o n)[j]?=some (sub cs o n)[j]:=List.getElem?_eq_getElem hj
 rw [← this]
 unfold sub
 rw [List.getElem?_take,if_pos (by omega),List.getElem?_drop]
theorem Sim.place {α:Type} {r:α × List SV × List SV} {tm:Array Value} (h:Sim G E fr hp tm w β N) {id:Nat} {p:List Step} {o:Nat} {u:Ty} {b:SV} (hb:nth hp id=b) (hn:b ≠ .none) (hm:kindB b ≠ 2) (hdd:∀ v,b ≠ .dead v) (hi:inBox (β id).bt b p=some (o,u)) {k:SV→Acc P G α} (hr:run (getA p b k) fr hp=some r) :
 ∃ sv cs,CR β hp w N u false sv [] cs∧(∀ j (hj:j < cs.length),w.cell? (Addr.add ⟨(β id).blk,o,none⟩ j)=some cs[j])∧run (k sv) fr hp=some r:=by
 have hbr:=h.box id
 rw [hb] at hbr
 have cell:(∃ cs e,w.heap[(β id).blk]?=some (.cells cs.toArray e (0,0))∧CR β hp w N (β id).bt false b [] cs∧∀ o,¬ N (β id).blk o)→pathOff (β id).bt p=some (o,u) →
  ∃ sv cs,CR β hp w N u false sv [] cs∧(∀ j (hj:j < cs.length),w.cell? (Addr.add ⟨(β id).blk,o,none⟩ j)=some cs[j])∧run (k sv) fr hp=some r:=by
  rintro ⟨cs,e,h1,h2,_⟩ hi
  obtain ⟨sv,hs,hr⟩:=getA_elim p b _ cs o u k hr h2 hi
  refine ⟨sv,_,hs,fun j hj=>?_,hr⟩
  rw [add_lit,cell_block h1,sub_get hj]
 cases b with
 | none=>exact (hn rfl).elim
 | mp a b c=>exact (hm rfl).elim
 | dead v=>exact (hdd v rfl).elim
 | row ver sh e t xs =>
  obtain ⟨h1,h2⟩:=hbr
  unfold inBox at hi
  split at hi
  ·rename_i ver' sh' e' t' xs' hrow
   cases hrow
   split at hi
   ·rename_i i p'
    split at hi
    ·rename_i hi0
     split at hi
     ·rename_i o' u' ho'
      cases hi
      obtain ⟨A,cap,e1,e2,_,e3,e4⟩:=h1.cells
      obtain ⟨hlt,ex⟩:=rdL_get (t:=t) (xs:=xs) (i:=i) hi0
      obtain ⟨ad,c,rfl,hc,hcell⟩:=e4 i.toNat hlt
      obtain ⟨a1,a2,a3⟩:=e3 ad rfl
      have hblk:=h2 _ a3
      obtain ⟨ab,ao,as⟩:=ad
      simp only at a1 a2 hblk
      subst a1;subst a2
      have hr':run (getA p' (.imm t (rdL t.zero xs i)) k) fr hp=some r:=hr
      rw [ex] at hr'
      obtain ⟨sv,hs,hr'⟩:=getA_elim p' (.imm t xs[i.toNat]) t c o' _ k hr' (CR.of_imm t hc) ho'
      refine ⟨sv,_,hs,fun j hj=>?_,hr'⟩
      have hsg:=sub_get hj
      have hlt2:o' + j < c.length:=by
       rcases Nat.lt_or_ge (o' + j) c.length with h | h
       ·exact h
       ·rw [List.getElem?_eq_none h] at hsg;cases hsg
      have:=hcell (o' + j) hlt2
      rw [add_lit,add_lit] at this
      rw [add_lit,hblk,show i.toNat * t.size + o' + j=0 + i.toNat * t.size + (o' + j) by omega,this,← hsg]
      simp [hlt2]
     ·cases hi
    ·cases hi
   ·cases hi
  ·rename_i hrow;exact (hrow _ _ _ _ _ rfl).elim
 | _=>exact cell hbr hi
theorem op_load (hT:tabChk P T=true) {t:TypeId} {x:Operand} (ho:o.op=.load t x) (h:Sim G E fr hp a.tmps w β N)
 (hr:run (rdO x fun a=>tyA T t fun t=>(match a with
  | .iptr u x=>eqA u t (setD o.dst (.imm u x) (.pure ()))
  | .ptr id ver p u=>eqA u t (.rd true id fun b=>(match b with
   | .row v _ _ _ _=>cond (Nat.beq v ver) (getA p b fun v=>setD o.dst v (.pure ())) .fail
   | .mp _ _ _=>.fail
   | .dead _=>.fail
   | .none=>.fail
   | b=>cond (Nat.beq ver 0) (getA p b fun v=>setD o.dst v (.pure ())) .fail))
  | _=>.fail):U P G) fr hp=some r):Does P o a w (After G E a r):=by
 obtain ⟨v,hv,hr⟩:=rdO_elim h hr
 obtain ⟨t',ht,hr⟩:=tyA_elim hT hr
 cases v with
 | iptr u y =>
  obtain ⟨e,hr1⟩:=eqA_elim hr
  subst e
  obtain ⟨ad,cs,e,h1,h2⟩:=(hv:∃ ad cs,a.eval x=.pointer (some ad)∧rel w N u y cs∧At w N ad cs)
  have hl:=run_loadVar' ht w ad cs (rel_len _ _ _ h1) (fun j hj=>(h2 j hj).2)
  exact does_val (v:=.imm u y) (u:=valOf u cs) (by unfold execOp;rw [ho];simp [Instr.loadAt,Instr.sureAddr,e,hl]) h ⟨cs,h1,rfl⟩ hr1
 | ptr id ver p u =>
  obtain ⟨e,hr1⟩:=eqA_elim hr
  subst e
  clear hr
  have hr:=hr1
  clear hr1
  obtain ⟨h1,h2,h3,h4⟩:=(hv:nth hp id ≠ .none∧ver ≤ bver (nth hp id)∧(∃ ad,a.eval x=.pointer (some ad))∧(ver=bver (nth hp id)→∃ o,inBox (β id).bt (nth hp id) p=some (o,u)∧a.eval x=.pointer (some ⟨(β id).blk,o,none⟩)))
  have main:ver=bver (nth hp id)→kindB (nth hp id) ≠ 2→(∀ v,nth hp id ≠ .dead v)→run (getA p (nth hp id) fun v=>setD o.dst v (.pure ()):U P G) fr hp=some r→Does P o a w (After G E a r):=by
   intro hver hm hdd hr
   obtain ⟨off,hi,e⟩:=h4 hver
   obtain ⟨sv,cs,hc,hcell,hr⟩:=h.place rfl h1 hm hdd hi hr
   have hl:=run_loadVar' ht w ⟨(β id).blk,off,none⟩ cs hc.len hcell
   exact does_val (u:=valOf u cs) (by unfold execOp;rw [ho];simp [Instr.loadAt,Instr.sureAddr,e,hl]) h hc.toVR hr
  simp only [run,if_true] at hr
  generalize hg:nth hp id=b at *
  split at hr
  ·obtain ⟨hv2,hr⟩:=cond_fail hr
   exact main (Nat.eq_of_beq_eq_true hv2).symm (by simp [kindB]) (by simp) hr
  ·exact fail_elim hr
  ·exact fail_elim hr
  ·exact fail_elim hr
  ·rename_i hrow hmp hdead hnone
   obtain ⟨hv2,hr⟩:=cond_fail hr
   have hz:bver b=0:=by
    cases b with
    | row a b c d e=>exact (hrow _ _ _ _ _ rfl).elim
    | dead v=>exact (hdead _ rfl).elim
    | _=>rfl
   exact main (by rw [hz];exact Nat.eq_of_beq_eq_true hv2) (by
    cases b with
    | mp a b c=>exact (hmp _ _ _ rfl).elim
    | _=>simp [kindB]) (fun v e=>hdead v e) hr
 | _=>exact fail_elim hr
end Ev
end Go.Proofs.YtlfcdmibknmjeaaGreatDoor
namespace Go.Proofs.YtlfcdmibknmjeaaGreatDoor
namespace Ev
open Go Go.RowKit
variable {P:Program} {G:List GV} {E:Entry} {fr hp:List SV} {w:World} {β:Nat→BI} {N:Reg} {r:Unit × List SV × List SV} {a:Act} {o:Oper} {T:Tab}
theorem setRow_cells (w:World) (g:Nat) (cs:List Value) (e:TypeId) (o:Nat) (ys:List Value) (hg:w.heap[g]?=some (.cells cs.toArray e (0,0))) (hl:o + ys.length ≤ cs.length) (h1:∀ v ∈ ys,v.oneCell'=true) {t:Ty} {id:TypeId}
 (ht:tyChk P t none id=true) (v:Value) (hv:v.cells.toList=ys) (hs:ys.length=t.size) :
 (Instr.storeAt id (.pointer (some ⟨g,o,none⟩)) v).run P w=.ok () (w.setRow g (over cs o ys).toArray):=by
 have hst:=run_storeCells_at P g o e ys 0 cs.toArray w hg (by simpa using hl) h1
 have hz:v.cells.size=t.size:=by rw [← hs,← hv];simp
 have e2:(cs.toArray.toList.take (o + 0) ++ ys ++ cs.toArray.toList.drop (o + 0 + ys.length)).toArray=(over cs o ys).toArray:=by simp [over]
 rw [e2] at hst
 simp [Instr.storeAt,Instr.sureAddr,storeVar,run_sizeOf' ht,hz,hv,hst]
theorem cell_other {w:World} {g:Nat} {c:Array Value} {b o:Nat} (h:b ≠ g):(w.setRow g c).cell? ⟨b,o,none⟩=w.cell? ⟨b,o,none⟩:=by
 unfold World.cell?
 rw [setRow_other w g b c h]
theorem Sim.store (h:Sim G E fr hp a.tmps w β N) {id:Nat} {p:List Step} {off:Nat} {u:Ty} {b:SV} (hb:nth hp id=b) (hn:b ≠ .none) (hrow:∀ v sh e t xs,b ≠ .row v sh e t xs) (hi:pathOff (β id).bt p=some (off,u))
 {v:SV} {ys:List Value} (hv:CR β hp w N u false v [] ys) {k:SV→U P G} (hr:run (setA p b v k) fr hp=some r) :
 ∃ new cs e,w.heap[(β id).blk]?=some (.cells cs.toArray e (0,0))∧off + ys.length ≤ cs.length∧Sim G E fr (put hp id new) a.tmps (w.setRow (β id).blk (over cs off ys).toArray) β N∧run (k new) fr hp=some r:=by
 have hdd:∀ a,b ≠ .dead a:=by
  rintro a rfl
  cases p with
  | nil=>exact fail_elim hr
  | cons s p=>cases s <;> exact fail_elim hr
 have hmp:∀ a c d,b ≠ .mp a c d:=by
  rintro a c d rfl
  cases p with
  | nil=>exact fail_elim hr
  | cons s p=>cases s <;> exact fail_elim hr
 have hbr:=h.box id
 rw [hb] at hbr
 have cells:∃ cs e,w.heap[(β id).blk]?=some (.cells cs.toArray e (0,0))∧CR β hp w N (β id).bt false b [] cs∧∀ o,¬ N (β id).blk o:=by
  cases b with
  | none=>exact (hn rfl).elim
  | row v1 v2 v3 v4 v5=>exact (hrow _ _ _ _ _ rfl).elim
  | mp v1 v2 v3=>exact (hmp _ _ _ rfl).elim
  | dead v1=>exact (hdd _ rfl).elim
  | _=>exact hbr
 obtain ⟨cs,e,h1,h2,h3⟩:=cells
 have hle:=pathOff_le _ _ _ _ hi
 have hyl:=hv.len
 have hcl:=h2.len
 obtain ⟨new,hnew,hr⟩:=setA_elim p b v _ cs off u ys k hr h2 hi hv
 refine ⟨new,cs,e,h1,by omega,?_,hr⟩
 have hin:id < hp.length:=nth_in (by rw [hb];exact hn)
 have hnn:new ≠ .none∧bver new=0∧(∀ y,blkB y new=some y.blk)∧(∀ q,inBox (β id).bt new q=pathOff (β id).bt q)∧kindB new=3 ∧
  ∀ β' hp' w' N' i,BR β' hp' w' N' i new=∃ cs e,w'.heap[(β' i).blk]?=some (.cells cs.toArray e (0,0))∧CR β' hp' w' N' (β' i).bt false new [] cs∧∀ o,¬ N' (β' i).blk o:=by
  cases new with
  | none=>cases hbt:(β id).bt <;> rw [hbt] at hnew <;> exact (hnew:False).elim
  | row v1 v2 v3 v4 v5=>cases hbt:(β id).bt <;> rw [hbt] at hnew <;> exact (hnew:False).elim
  | mp v1 v2 v3=>cases hbt:(β id).bt <;> rw [hbt] at hnew <;> exact (hnew:False).elim
  | dead v1=>cases hbt:(β id).bt <;> rw [hbt] at hnew <;> exact (hnew:False).elim
  | _=>exact ⟨by simp,rfl,fun _=>rfl,fun _=>rfl,rfl,fun _ _ _ _ _=>rfl⟩
 obtain ⟨n1,n2,n3,n4,n5,n6⟩:=hnn
 have ob:bver b=0∧(∀ y,blkB y b=some y.blk)∧(∀ q,inBox (β id).bt b q=pathOff (β id).bt q)∧kindB b=3:=by
  cases b with
  | none=>exact (hn rfl).elim
  | row v1 v2 v3 v4 v5=>exact (hrow _ _ _ _ _ rfl).elim
  | mp v1 v2 v3=>exact (hmp _ _ _ rfl).elim
  | dead v1=>exact (hdd _ rfl).elim
  | _=>exact ⟨rfl,fun _=>rfl,fun _=>rfl,rfl⟩
 obtain ⟨o1,o2,o3,o4⟩:=ob
 have hblk:blkOf β hp id=some (β id).blk:=by unfold blkOf;rw [hb];exact o2 _
 have hE:Ext w N (w.setRow (β id).blk (over cs off ys).toArray) N:=fun c o hc=>⟨hc,cell_other (fun e=>h3 o (e ▸ hc))⟩
 have ht:Turn β hp w N id (β id) new (w.setRow (β id).blk (over cs off ys).toArray) N:=by
  refine ⟨hin,n1,.inr (.inr ⟨by rw [hb,n2,o1],rfl,fun q=>by rw [hb,n4,o3],by rw [hb,n5,o4]⟩),hE,fun i hi g hg=>⟨setRow_other w _ _ _ (fun e=>?_),fun _ ho=>ho⟩,fun g hg=>?_,fun k hk hk2=>setRow_other w _ _ _ (fun e=>?_),rfl,rfl,rfl,by simp,fun c o ho=>.inl ho,fun c o ho=>by simpa using h.ok c o ho⟩
  ·subst e;exact hi (h.apart _ _ _ hg hblk)
  ·rw [n3] at hg;cases hg
   exact ⟨.inl hblk,by simpa using (h.bnd _ _ hblk).1⟩
  ·subst e;exact hk2 hblk
 have hs:=h.turn ht (by
  rw [upd_self,n6]
  refine ⟨over cs off ys,e,setRow_heap w _ _ _ _ _ h1,?_,h3⟩
  have:=ht.later
  rw [upd_self] at this
  exact CR.later this hE _ _ _ _ _ hnew)
 rwa [upd_self] at hs
theorem over_take (cs:List Value) {k T:Nat} (ys:List Value) (h:k + ys.length ≤ T) (hT:T ≤ cs.length):(over cs k ys).take T=over (cs.take T) k ys:=by
 unfold over
 have hA:(cs.take k ++ ys).length=k + ys.length:=by simp;omega
 rw [List.take_append,List.take_of_length_le (by rw [hA];exact h),hA,List.take_take,Nat.min_eq_left (by omega),List.drop_take]
theorem RowAt.set {e:TypeId} {t:Ty} {xs:List t.denote} {v:Value} {i o':Nat} {y:t.denote} {c ys:List Value} (h:RowAt w N e t false xs v) (hi:i < xs.length) (hc:∃ css:List (List Value),css.length=xs.length∧(∀ i (h:i < xs.length) (h':i < css.length),rel w N t xs[i] css[i])∧w.ownsRow 0 e t.size v xs.length css.flatten∧css[i]?=some c)
 (hy:rel w N t y (over c o' ys)) (hle:o' + ys.length ≤ t.size) :
 ∃ g cap cur,v=.slice (some ⟨g,0,none⟩) xs.length cap∧w.heap[g]?=some (.cells cur e (0,0))∧i * t.size + o' + ys.length ≤ cur.size∧(∀ o,¬ N g o) ∧
  ∀ w',w'.heap[g]?=some (.cells (over cur.toList (i * t.size + o') ys).toArray e (0,0))→Ext w N w' N→RowAt w' N e t false (xs.set i y) v:=by
 obtain ⟨css,h1,h2,h3,h4⟩:=hc
 obtain ⟨hi',h4⟩:=List.getElem?_eq_some_iff.1 h4
 have hlen:∀ c ∈ css,c.length=t.size:=fun c hc=>by
  obtain ⟨k,hk,rfl⟩:=List.getElem_of_mem hc
  exact rel_len t _ _ (h2 k (by omega) hk)
 have hcl:=hlen c (by rw [← h4];exact List.getElem_mem hi')
 obtain ⟨_,hN⟩:=h
 rcases h3.2 with ⟨rfl,hz⟩ | ⟨g,cap,cur,rfl,e1,e2,e3,e4,e5,e6⟩
 ·omega
 ·have hb:=idx_le (i:=(i:Int)) (n:=xs.length) (s:=t.size) (by omega)
  simp only [Int.toNat_natCast] at hb
  have hcap:xs.length * t.size ≤ cap * t.size:=Nat.mul_le_mul_right _ e3
  refine ⟨g,cap,cur,rfl,e2,by omega,fun o ho=>(by have:=(hN g rfl o ho).1;cases this),fun w' hw' hE'=>⟨⟨css.set i (over c o' ys),by simpa using h1,fun j hj hj'=>?_,?_⟩,fun g' hg' o ho=>?_⟩⟩
  ·rw [List.getElem_set,List.getElem_set]
   split
   ·exact rel_ext hE' _ _ _ hy
   ·exact rel_ext hE' _ _ _ (h2 j (by simpa using hj) (by simpa using hj'))
  ·refine ⟨?_,.inr ⟨g,cap,_,by simp,e1,hw',by simpa using e3,e4,by rw [List.size_toArray,over_len _ (by simp;omega)];simpa using e5,?_⟩⟩
   ·rw [flatten_len _ (n:=t.size) ?_]
    ·simp [h1]
    ·intro d hd
     rcases List.mem_or_eq_of_mem_set hd with hd | rfl
     ·exact hlen d hd
     ·rw [over_len _ (by omega),hcl]
   ·have hfl:css.flatten.length=xs.length * t.size:=by rw [flatten_len css hlen,h1]
    have hflat:=over_over css.flatten (o:=i * t.size) (n:=t.size) (o':=o') (new:=ys) (by omega) (by rw [hfl];omega)
    rw [sub_flat css hlen i hi',h4] at hflat
    have hset:(css.set i (over c o' ys)).flatten=over css.flatten (i * t.size + o') ys:=by
     rw [← hflat]
     have key:=over_flat css i hi' (over c o' ys) (by rw [over_len _ (by omega),h4])
     have hti:((css.take i).flatten).length=i * t.size:=by
      rw [flatten_len _ (n:=t.size) (fun d hd=>hlen d (List.mem_of_mem_take hd)),List.length_take,Nat.min_eq_left (by omega)]
     rw [hti] at key
     exact key.symm
    rw [hset,← e6]
    simp only [List.length_set]
    have hT1:(i * t.size + o') + ys.length ≤ xs.length * t.size:=by omega
    have hT2:xs.length * t.size ≤ cur.toList.length:=by simp only [Array.length_toList];omega
    exact over_take cur.toList ys hT1 hT2
  ·simp only [List.length_set]
   exact hN g' hg' o ho
end Ev
end Go.Proofs.YtlfcdmibknmjeaaGreatDoor
namespace Go.Proofs.YtlfcdmibknmjeaaGreatDoor
namespace Ev
open Go Go.RowKit
variable {P:Program} {G:List GV} {E:Entry} {fr hp:List SV} {w:World} {β:Nat→BI} {N:Reg} {r:Unit × List SV × List SV} {a:Act} {o:Oper} {T:Tab}
theorem setRow_run (w:World) (g k:Nat) (cur:Array Value) (e:TypeId) (ys:List Value) (hg:w.heap[g]?=some (.cells cur e (0,0))) (hl:k + ys.length ≤ cur.size) (h1:∀ v ∈ ys,v.oneCell'=true) {t:Ty} {id:TypeId}
 (ht:tyChk P t none id=true) (v:Value) (hv:v.cells.toList=ys) (hs:ys.length=t.size) :
 (Instr.storeAt id (.pointer (some ⟨g,k,none⟩)) v).run P w=.ok () (w.setRow g (over cur.toList k ys).toArray):=by
 have:=setRow_cells (P:=P) w g cur.toList e k ys (by simpa using hg) (by simpa using hl) h1 ht v hv hs
 exact this
theorem Sim.storeRow (h:Sim G E fr hp a.tmps w β N) {id ver:Nat} {sh:Bool} {e:TypeId} {t:Ty} {xs:List t.denote} {i:Int} {p:List Step} {off:Nat} {u:Ty} (hb:nth hp id=.row ver sh e t xs)
 (hi:inBox (β id).bt (.row ver sh e t xs) (.idx i :: p)=some (off,u)) {x:u.denote} {ys:List Value} (hx:rel w N u x ys) {k:SV→U P G} (hr:run (setA (.idx i :: p) (.row ver sh e t xs) (.imm u x) k) fr hp=some r) :
 ∃ new cur e',w.heap[(β id).blk]?=some (.cells cur e' (0,0))∧off + ys.length ≤ cur.size∧Sim G E fr (put hp id new) a.tmps (w.setRow (β id).blk (over cur.toList off ys).toArray) β N∧run (k new) fr hp=some r:=by
 have hin:id < hp.length:=nth_in (by rw [hb];simp)
 have hbr:=h.box id
 rw [hb] at hbr
 obtain ⟨hrow,hblk⟩:=hbr
 simp only [inBox] at hi
 split at hi
 ·rename_i hi0
  split at hi
  ·rename_i o' u' ho'
   simp only [Option.some.injEq,Prod.mk.injEq] at hi
   obtain ⟨rfl,rfl⟩:=hi
   simp only [setA] at hr
   cases sh with
   | true=>exact fail_elim hr
   | false =>
    obtain ⟨hlt,ex⟩:=rdL_get (t:=t) (xs:=xs) (i:=i) hi0
    rw [ex] at hr
    obtain ⟨css,c1,c2,c3⟩:=hrow.1
    have hi':i.toNat < css.length:=by omega
    have hc:=c2 i.toNat hlt hi'
    have hle:=pathOff_le _ _ _ _ ho'
    have hxl:=rel_len _ _ _ hx
    obtain ⟨z,hz,hr⟩:=setA_elim (β:=β) p (.imm t xs[i.toNat]) (.imm u' x) t css[i.toNat] o' u' ys _ hr (CR.of_imm t hc) ho' (CR.of_imm u' hx)
    cases z with
    | imm t' y =>
     obtain ⟨e1,hz'⟩:=hz.imm_inv
     subst e1
     obtain ⟨_,hr⟩:=castA_elim hr
     obtain ⟨g,cap,cur,hv,hg,hgl,hN,hnew⟩:=RowAt.set (i:=i.toNat) (o':=o') (y:=y) (ys:=ys) hrow hlt ⟨css,c1,c2,c3,List.getElem?_eq_getElem hi'⟩ hz' (by omega)
     have hob:(β id).val.ownBlock=some g:=by rw [hv];rfl
     have hbg:=hblk g hob
     have hbo:blkOf β hp id=some g:=by unfold blkOf;rw [hb];exact hob
     rw [hbg]
     refine ⟨.row ver false e t' (xs.set i.toNat y),cur,e,hg,hgl,?_,hr⟩
     let w':=w.setRow g (over cur.toList (i.toNat * t'.size + o') ys).toArray
     have hE:Ext w N w' N:=fun c o hc=>⟨hc,cell_other (fun e=>hN o (e ▸ hc))⟩
     have hw':w'.heap[g]?=some (.cells (over cur.toList (i.toNat * t'.size + o') ys).toArray e (0,0)):=setRow_heap w _ _ _ _ _ hg
     have ht:Turn β hp w N id (β id) (.row ver false e t' (xs.set i.toNat y)) w' N:=by
      refine ⟨hin,by simp,.inr (.inr ⟨by rw [hb];rfl,rfl,fun q=>by rw [hb];simp only [inBox,List.length_set],by rw [hb];rfl⟩),hE,fun i hi g' hg'=>⟨setRow_other w _ _ _ (fun e=>?_),fun _ ho=>ho⟩,fun g' hg'=>?_,fun k hk hk2=>setRow_other w _ _ _ (fun e=>?_),rfl,rfl,rfl,by simp [w'],fun c o ho=>.inl ho,fun c o ho=>by simpa [w'] using h.ok c o ho⟩
      ·subst e;exact hi (h.apart _ _ _ hg' hbo)
      ·have hg'':blkOf β hp id=some g':=by unfold blkOf;rw [hb];exact hg'
       exact ⟨.inl hg'',by simpa [w'] using (h.bnd _ _ hg'').1⟩
      ·subst e;exact hk2 hbo
     have hs:=h.turn ht (by rw [upd_self];exact ⟨hnew w' hw' hE,hblk⟩)
     rwa [upd_self] at hs
    | _=>exact fail_elim hr
  ·cases hi
 ·cases hi
theorem op_store (hT:tabChk P T=true) {t:TypeId} {x y:Operand} (ho:o.op=.store t x y) (h:Sim G E fr hp a.tmps w β N)
 (hr:run (rdO x fun a=>rdO y fun x=>tyA T t fun t=>(match a with
 | .ptr id ver p u=>eqA u t (match p with
  | .idx i :: p=>immA t x fun x=>.rd true id fun b=>(match b with
   | .row v _ _ _ _=>cond (Nat.beq v ver) (setA (.idx i :: p) b (.imm t x) fun b=>.wr true id b (setD o.dst (.tup []) (.pure ()))) .fail
   | b=>cond (Nat.beq ver 0) (setA (.idx i :: p) b (.imm t x) fun b=>.wr true id b (setD o.dst (.tup []) (.pure ()))) .fail)
  | p=>fitA t x (.rd true id fun b=>(match b with
   | .row _ _ _ _ _=>.fail
   | b=>cond (Nat.beq ver 0) (setA p b x fun b=>.wr true id b (setD o.dst (.tup []) (.pure ()))) .fail)))
 | _=>.fail):U P G) fr hp=some r):Does P o a w (After G E a r):=by
 obtain ⟨va,hva,hr⟩:=rdO_elim h hr
 obtain ⟨vx,hvx,hr⟩:=rdO_elim h hr
 obtain ⟨t',ht,hr⟩:=tyA_elim hT hr
 cases va with
 | ptr id ver p u =>
  obtain ⟨e,hr1⟩:=eqA_elim hr
  subst e
  clear hr
  obtain ⟨h1,h2,h3,h4⟩:=(hva:nth hp id ≠ .none∧ver ≤ bver (nth hp id)∧(∃ ad,a.eval x=.pointer (some ad))∧(ver=bver (nth hp id)→∃ o,inBox (β id).bt (nth hp id) p=some (o,u)∧a.eval x=.pointer (some ⟨(β id).blk,o,none⟩)))
  have fin:∀ {fr0 hp0 w' β' N'},(Instr.storeAt t (a.eval x) (a.eval y)).run P w=.ok () w'→Sim G E fr0 hp0 a.tmps w' β' N'→run (setD o.dst (.tup []) (.pure ()):U P G) fr0 hp0=some r→Does P o a w (After G E a r):=by
   intro fr0 hp0 w' β' N' hst hs hr
   exact does_skip (by unfold execOp;rw [ho];simp [hst]) hs hr
  have cellCase:∀ (hp0:List SV) (N0:Reg) (v:SV) (q:List Step),Gh G E fr hp a.tmps w β N hp0 N0→CR β hp0 w N0 u false v [] (a.eval y).cells.toList→(∀ c ∈ (a.eval y).cells.toList,c.oneCell'=true) →
   (∀ v sh e t xs,nth hp0 id ≠ .row v sh e t xs)→(Nat.beq ver 0)=true→p=q→run (setA q (nth hp0 id) v fun b=>.wr true id b (setD o.dst (.tup []) (.pure ())):U P G) fr hp0=some r→Does P o a w (After G E a r):=by
   intro hp0 N0 v q g hc h1c hnr hv0 hpq hr
   subst hpq
   have hnd:∀ v,nth hp0 id ≠ .dead v:=by
    intro v e
    rw [e] at hr
    cases p with
    | nil=>exact fail_elim hr
    | cons s p=>cases s <;> exact fail_elim hr
   have hl0:=g.later id h1
   have hz:bver (nth hp0 id)=0:=by
    cases hb:nth hp0 id with
    | row a b c d e=>exact (hnr _ _ _ _ _ hb).elim
    | dead v=>exact (hnd _ hb).elim
    | _=>rfl
   have hver:ver=0:=Nat.eq_of_beq_eq_true hv0
   have hold:bver (nth hp id)=0:=by rcases hl0.2 with k | k <;> omega
   obtain ⟨off,hi,e⟩:=h4 (by omega)
   have hin:inBox (β id).bt (nth hp0 id) p=some (off,u):=by
    rcases hl0.2 with k | ⟨_,_,k,_⟩
    ·omega
    ·rw [k];exact hi
   have hpo:pathOff (β id).bt p=some (off,u):=by
    cases hb:nth hp0 id with
    | row a b c d e=>exact (hnr _ _ _ _ _ hb).elim
    | _=>rw [hb] at hin;exact hin
   obtain ⟨new,cs,e',hg,hle,hs,hr⟩:=g.sim.store rfl hl0.1 hnr hpo hc hr
   simp only [run,if_true] at hr
   refine fin ?_ hs hr
   rw [e]
   exact setRow_cells w _ cs e' off _ hg hle h1c ht _ rfl hc.len
  have fitCase:run (fitA u vx (.rd true id fun b=>(match b with
   | .row _ _ _ _ _=>.fail
   | b=>cond (Nat.beq ver 0) (setA p b vx fun b=>.wr true id b (setD o.dst (.tup []) (.pure ()))) .fail)):U P G) fr hp=some r→Does P o a w (After G E a r):=by
   intro hr1
   obtain ⟨hc,_,hr⟩:=fitA_elim hr1 hvx
   simp only [run,if_true] at hr
   split at hr
   ·exact fail_elim hr
   ·rename_i hnr
    obtain ⟨hv,hr⟩:=cond_fail hr
    exact cellCase hp N vx _ (Gh.refl h) hc hc.one hnr hv rfl hr
  have idxCase:∀ (i:Int) (q:List Step),p=.idx i :: q→run (immA u vx fun x=>.rd true id fun b=>(match b with
   | .row v _ _ _ _=>cond (Nat.beq v ver) (setA (.idx i :: q) b (.imm u x) fun b=>.wr true id b (setD o.dst (.tup []) (.pure ()))) .fail
   | b=>cond (Nat.beq ver 0) (setA (.idx i :: q) b (.imm u x) fun b=>.wr true id b (setD o.dst (.tup []) (.pure ()))) .fail):U P G) fr hp=some r→Does P o a w (After G E a r):=by
   intro i q hpq hr1
   subst hpq
   obtain ⟨hp0,N0,y',g,⟨cs,hy1,hy2⟩,hr⟩:=immA_elim h hr1 hvx
   have hcs:(a.eval y).cells.toList=cs:=by rw [hy2];exact cells_valOf (rel_len _ _ _ hy1) (rel_one _ _ _ hy1)
   simp only [run,if_true] at hr
   split at hr
   ·rename_i v sh e t0 xs hrow
    obtain ⟨hv,hr⟩:=cond_fail hr
    have hv:v=ver:=Nat.eq_of_beq_eq_true hv
    have hl0:=g.later id h1
    rw [hrow] at hr
    have hbv:bver (nth hp0 id)=v:=by rw [hrow];rfl
    have hold:ver=bver (nth hp id):=by rcases hl0.2 with k | k <;> omega
    obtain ⟨off,hi,e⟩:=h4 hold
    have hin:inBox (β id).bt (nth hp0 id) (.idx i :: q)=some (off,u):=by
     rcases hl0.2 with k | ⟨_,_,k,_⟩
     ·omega
     ·rw [k];exact hi
    rw [hrow] at hin
    obtain ⟨new,cur,e',hg,hle,hs,hr⟩:=g.sim.storeRow hrow hin hy1 hr
    simp only [run,if_true] at hr
    refine fin ?_ hs hr
    rw [e]
    exact setRow_run w _ off cur e' cs hg hle (rel_one _ _ _ hy1) ht _ hcs (rel_len _ _ _ hy1)
   ·rename_i hnr
    obtain ⟨hv,hr⟩:=cond_fail hr
    exact cellCase hp0 N0 (.imm u y') (.idx i :: q) g (by rw [hcs];exact CR.of_imm u hy1) (by rw [hcs];exact rel_one _ _ _ hy1) hnr hv rfl hr
  cases p with
  | nil=>exact fitCase hr1
  | cons s q=>cases s with
   | fld n=>exact fitCase hr1
   | idx i=>exact idxCase i q rfl hr1
 | _=>exact fail_elim hr
end Ev
end Go.Proofs.YtlfcdmibknmjeaaGreatDoor
namespace Go.Proofs.YtlfcdmibknmjeaaGreatDoor
namespace Ev
open Go Go.RowKit
variable {P:Program} {G:List GV} {E:Entry} {fr hp:List SV} {w:World} {β:Nat→BI} {N:Reg} {r:Unit × List SV × List SV} {a:Act} {o:Oper} {T:Tab}
theorem appA_run:∀ (p:List Step) (s:Step) (k:List Step→U P G),run (appA p s k) fr hp=some r→run (k (p ++ [s])) fr hp=some r
 | [],_,_,h=>h
 | _ :: p,s,k,h=>appA_run p s (fun q=>k (_ :: q)) h
theorem pathOff_snoc:∀ (p:List Step) (t:Ty) (s:Step) (o:Nat) (u:Ty) (o':Nat) (v:Ty),pathOff t p=some (o,u)→stepOff u s=some (o',v)→pathOff t (p ++ [s])=some (o + o',v)
 | [],t,s,o,u,o',v,h1,h2=>by
  simp only [pathOff,Option.some.injEq,Prod.mk.injEq] at h1
  obtain ⟨rfl,rfl⟩:=h1
  simp only [List.nil_append,pathOff,h2]
  simp
 | x :: p,t,s,o,u,o',v,h1,h2=>by
  simp only [pathOff] at h1
  split at h1
  ·rename_i o1 u1 e1
   split at h1
   ·rename_i o2 u2 e2
    simp only [Option.some.injEq,Prod.mk.injEq] at h1
    obtain ⟨rfl,rfl⟩:=h1
    have:=pathOff_snoc p u1 s o2 u2 o' v e2 h2
    simp only [List.cons_append,pathOff,e1,this]
    simp [Nat.add_assoc]
   ·cases h1
  ·cases h1
theorem inBox_snoc {bt:Ty} {b:SV} {p:List Step} {s:Step} {o:Nat} {u:Ty} {o':Nat} {v:Ty} (h1:inBox bt b p=some (o,u)) (h2:stepOff u s=some (o',v)):inBox bt b (p ++ [s])=some (o + o',v):=by
 unfold inBox at *
 split at h1
 ·split at h1
  ·rename_i i p'
   simp only [List.cons_append]
   split at h1
   ·rename_i hi
    rw [if_pos hi]
    split at h1
    ·rename_i o1 u1 e1
     simp only [Option.some.injEq,Prod.mk.injEq] at h1
     obtain ⟨rfl,rfl⟩:=h1
     rw [pathOff_snoc p' _ s _ _ _ _ e1 h2]
     simp [Nat.add_assoc]
    ·cases h1
   ·cases h1
  ·cases h1
 ·exact pathOff_snoc _ _ _ _ _ _ _ h1 h2
theorem At.sub {ad:Addr} {cs:List Value} (h:At w N ad cs) (o n:Nat):At w N (ad.add o) (sub cs o n):=by
 intro j hj
 have hs:=sub_get hj
 have hlt:o + j < cs.length:=by
  rcases Nat.lt_or_ge (o + j) cs.length with h | h
  ·exact h
  ·rw [List.getElem?_eq_none h] at hs;cases hs
 have:=h (o + j) hlt
 rw [add_add]
 refine ⟨this.1,?_⟩
 rw [this.2,← hs]
 simp [hlt]
theorem ftyA_elim:∀ (t:Ty) (n:Nat) (k:Ty→U P G),run (ftyA t n k) fr hp=some r→∃ o u,fldOff t n=some (o,u)∧run (k u) fr hp=some r
 | .pair a b,0,k,h=>⟨0,a,rfl,h⟩
 | .pair a b,n + 1,k,h=>by
  obtain ⟨o,u,e,h⟩:=ftyA_elim b n k h
  exact ⟨a.size + o,u,by simp [fldOff,e],h⟩
 | .unit,n,k,h=>by cases n <;> exact fail_elim h
 | .int _,n,k,h=>by cases n <;> exact fail_elim h
 | .bool,n,k,h=>by cases n <;> exact fail_elim h
 | .str,n,k,h=>by cases n <;> exact fail_elim h
 | .opq,n,k,h=>by cases n <;> exact fail_elim h
 | .list _,n,k,h=>by cases n <;> exact fail_elim h
 | .arr _ _,n,k,h=>by cases n <;> exact fail_elim h
theorem fldA_off:∀ (t:Ty) (x:t.denote) (n:Nat) (k:(t:Ty)→t.denote→U P G),run (fldA t x n k) fr hp=some r→∃ o u,fldOff t n=some (o,u)
 | .pair a b,x,0,k,h=>⟨0,a,rfl⟩
 | .pair a b,x,n + 1,k,h=>by
  obtain ⟨o,u,e⟩:=fldA_off b x.2 n k h
  exact ⟨a.size + o,u,by simp [fldOff,e]⟩
 | .unit,_,n,k,h=>by cases n <;> exact fail_elim h
 | .int _,_,n,k,h=>by cases n <;> exact fail_elim h
 | .bool,_,n,k,h=>by cases n <;> exact fail_elim h
 | .str,_,n,k,h=>by cases n <;> exact fail_elim h
 | .opq,_,n,k,h=>by cases n <;> exact fail_elim h
 | .list _,_,n,k,h=>by cases n <;> exact fail_elim h
 | .arr _ _,_,n,k,h=>by cases n <;> exact fail_elim h
theorem nthA_off:∀ (t:Ty) (vs:List SV) (n:Nat) (cs:List Value) (k:SV→U P G),run (nthA vs n k) fr hp=some r→CR β hp w N t true .none vs cs→∃ o u,fldOff t n=some (o,u)
 | .pair a b,v :: vs,0,cs,k,h,hc=>⟨0,a,rfl⟩
 | .pair a b,v :: vs,n + 1,cs,k,h,hc=>by
  obtain ⟨c1,c2,rfl,_,h2⟩:=hc
  obtain ⟨o,u,e⟩:=nthA_off b vs n c2 k h h2
  exact ⟨a.size + o,u,by simp [fldOff,e]⟩
 | .pair a b,[],n,_,_,h,_=>by cases n <;> exact fail_elim h
 | .unit,vs,n,cs,k,h,hc=>by
  obtain ⟨rfl,rfl⟩:=(hc:vs=[]∧cs=[])
  cases n <;> exact fail_elim h
 | .int _,_,_,_,_,_,hc=>(hc:False).elim
 | .bool,_,_,_,_,_,hc=>(hc:False).elim
 | .str,_,_,_,_,_,hc=>(hc:False).elim
 | .opq,_,_,_,_,_,hc=>(hc:False).elim
 | .list _,_,_,_,_,_,hc=>(hc:False).elim
 | .arr _ _,_,_,_,_,_,hc=>(hc:False).elim
theorem fldOff_agg {t:Ty} {n o:Nat} {u:Ty} (h:fldOff t n=some (o,u)):t.isAgg=true∧∀ n u,t ≠ .arr n u:=by
 cases t with
 | pair a b=>exact ⟨rfl,by simp⟩
 | _=>cases n <;> simp [fldOff] at h
theorem run_fieldAt {s:TypeId} {t:Ty} (ht:tyChk P t none s=true) {n o:Nat} {u:Ty} (hf:fldOff t n=some (o,u)) (ad:Addr) (w:World):(Instr.fieldAt s (.pointer (some ad)) n).run P w=.ok (.pointer (some (ad.add o))) w:=by
 obtain ⟨h1,h2⟩:=fldOff_agg hf
 obtain ⟨fs,hu,hfl⟩:=tyChk_struct ht h2 h1
 obtain ⟨f,e1,e2,e3,e4⟩:=flds_at t _ _ hfl n o u hf
 simp only [Nat.zero_add] at e2
 have e1':fs[n]?=some f:=by simpa using e1
 have hz:¬ u.size=0:=by omega
 simp [Instr.fieldAt,run_underlying hu,e1',Instr.sureAddr,fieldPlace,run_sizeOf' e4,hz,e2]
theorem op_fieldAddr (hT:tabChk P T=true) {s:TypeId} {x:Operand} {n:Nat} (ho:o.op=.fieldAddr s x n) (h:Sim G E fr hp a.tmps w β N)
 (hr:run (rdO x fun a=>tyA T s fun s=>(match a with
  | .iptr t x=>eqA t s (fldA t x n fun t x=>setD o.dst (.iptr t x) (.pure ()))
  | .ptr id ver p t=>eqA t s (ftyA t n fun u=>appA p (.fld n) fun p=>setD o.dst (.ptr id ver p u) (.pure ()))
  | _=>.fail):U P G) fr hp=some r):Does P o a w (After G E a r):=by
 obtain ⟨v,hv,hr⟩:=rdO_elim h hr
 obtain ⟨t',ht,hr⟩:=tyA_elim hT hr
 cases v with
 | iptr t y =>
  obtain ⟨e,hr1⟩:=eqA_elim hr
  subst e
  obtain ⟨ad,cs,e,h1,h2⟩:=(hv:∃ ad cs,a.eval x=.pointer (some ad)∧rel w N t y cs∧At w N ad cs)
  obtain ⟨off,u,hf⟩:=fldA_off t y n _ hr1
  obtain ⟨z,hz,hr2⟩:=fldA_elim t y n cs off u _ hr1 h1 hf
  refine does_val (v:=.iptr u z) (u:=.pointer (some (ad.add off))) (by unfold execOp;rw [ho];simp [e,run_fieldAt ht hf]) h ?_ hr2
  exact (⟨_,_,rfl,hz,h2.sub off u.size⟩:∃ ad' cs',Value.pointer (some (ad.add off))=.pointer (some ad')∧rel w N u z cs'∧At w N ad' cs')
 | ptr id ver p t =>
  obtain ⟨e,hr1⟩:=eqA_elim hr
  subst e
  obtain ⟨h1,h2,⟨ad,h3⟩,h4⟩:=(hv:nth hp id ≠ .none∧ver ≤ bver (nth hp id)∧(∃ ad,a.eval x=.pointer (some ad))∧(ver=bver (nth hp id)→∃ o,inBox (β id).bt (nth hp id) p=some (o,t)∧a.eval x=.pointer (some ⟨(β id).blk,o,none⟩)))
  obtain ⟨off,u,hf,hr2⟩:=ftyA_elim t n _ hr1
  have hr3:=appA_run p (.fld n) _ hr2
  refine does_val (v:=.ptr id ver (p ++ [.fld n]) u) (u:=.pointer (some (ad.add off))) (by unfold execOp;rw [ho];simp [h3,run_fieldAt ht hf]) h ?_ hr3
  refine (⟨h1,h2,⟨_,rfl⟩,fun hver=>?_⟩:nth hp id ≠ .none∧ver ≤ bver (nth hp id)∧(∃ ad',Value.pointer (some (ad.add off))=.pointer (some ad'))∧(ver=bver (nth hp id)→∃ o,inBox (β id).bt (nth hp id) (p ++ [.fld n])=some (o,u)∧Value.pointer (some (ad.add off))=.pointer (some ⟨(β id).blk,o,none⟩)))
  obtain ⟨o',hi,e⟩:=h4 hver
  rw [h3] at e
  cases e
  exact ⟨_,inBox_snoc hi (by cases t <;> exact hf),by rw [add_lit]⟩
 | _=>exact fail_elim hr
theorem split_sub (cs:List Value) {o n:Nat} (h:o + n ≤ cs.length):∃ pre post,cs=pre ++ sub cs o n ++ post∧pre.length=o:=by
 refine ⟨cs.take o,cs.drop (o + n),?_,by simp;omega⟩
 unfold sub
 rw [← List.drop_drop,List.append_assoc,List.take_append_drop,List.take_append_drop]
theorem op_field (hT:tabChk P T=true) {s:TypeId} {x:Operand} {n:Nat} (ho:o.op=.field s x n) (h:Sim G E fr hp a.tmps w β N)
 (hr:run (rdO x fun a=>tyA T s fun s=>(match a with
  | .imm t x=>eqA t s (fldA t x n fun t x=>setD o.dst (.imm t x) (.pure ()))
  | .agg t vs=>eqA t s (nthA vs n fun v=>setD o.dst v (.pure ()))
  | _=>.fail):U P G) fr hp=some r):Does P o a w (After G E a r):=by
 obtain ⟨v,hv,hr⟩:=rdO_elim h hr
 obtain ⟨t',ht,hr⟩:=tyA_elim hT hr
 have fin:∀ {t:Ty} {cs:List Value} {off:Nat} {u:Ty} {sv:SV},tyChk P t none s=true→a.eval x=.agg cs.toArray→cs.length=t.size→fldOff t n=some (off,u)→CR β hp w N u false sv [] (sub cs off u.size)→run (setD o.dst sv (.pure ()):U P G) fr hp=some r→Does P o a w (After G E a r):=by
  intro t cs off u sv ht e hl hf hc hr
  obtain ⟨h1,h2⟩:=fldOff_agg hf
  obtain ⟨fs,hu,hfl⟩:=tyChk_struct ht h2 h1
  obtain ⟨f,e1,e2,e3,e4⟩:=flds_at t _ _ hfl n off u hf
  simp only [Nat.zero_add] at e2
  have e1':fs[n]?=some f:=by simpa using e1
  have hle:=fldOff_le _ _ _ _ hf
  obtain ⟨pre,post,hs,hp⟩:=split_sub cs (o:=off) (n:=u.size) (by omega)
  have hpart:=run_part e4 w pre (sub cs off u.size) post hc.len
  rw [← hs,hp] at hpart
  exact does_val (u:=valOf u (sub cs off u.size)) (by unfold execOp;rw [ho];simp [Instr.field,e,run_underlying hu,e1',asAgg,e2,hpart]) h hc.toVR hr
 cases v with
 | imm t y =>
  obtain ⟨e,hr1⟩:=eqA_elim hr
  subst e
  obtain ⟨off,u,hf⟩:=fldA_off t y n _ hr1
  obtain ⟨cs,e1,_,h1⟩:=agg_val (fldOff_agg hf).1 (hv:IsImm w N t y (a.eval x))
  obtain ⟨z,hz,hr2⟩:=fldA_elim t y n cs off u _ hr1 h1 hf
  exact fin ht e1 (rel_len _ _ _ h1) hf (CR.of_imm u hz) hr2
 | agg t vs =>
  obtain ⟨e,hr1⟩:=eqA_elim hr
  subst e
  obtain ⟨cs,e1,hc⟩:=(hv:∃ cs,a.eval x=.agg cs.toArray∧CR β hp w N t false (.agg t vs) [] cs)
  obtain ⟨_,_,hc2⟩:=hc.agg_inv
  obtain ⟨off,u,hf⟩:=nthA_off t vs n cs _ hr1 hc2
  obtain ⟨sv,hsv,hr2⟩:=nthA_elim t vs n cs off u _ hr1 hc2 hf
  exact fin ht e1 hc.len hf hsv hr2
 | _=>exact fail_elim hr
theorem run_indexSlice {ty e:TypeId} {t:Ty} (hu:P.underlying ty=some (.slice e)) (ht:tyChk P t none e=true) (ad:Addr) (n c:Nat) (k:IntKind) (i:Int) (hi:0 ≤ i∧i < n) (w:World) :
 (Instr.indexAt ty (.slice (some ad) n c) (.int k i)).run P w=.ok (.pointer (some (ad.add (i.toNat * t.size)))) w:=by
 simp [Instr.indexAt,asIntOf,run_underlying hu,hi,run_sizeOf' ht]
theorem run_indexArr {ty e:TypeId} {n:Nat} {t:Ty} (hu:P.underlying ty=some (.array n e)) (ht:tyChk P t none e=true) (ad:Addr) (k:IntKind) (i:Int) (hi:0 ≤ i∧i < n) (w:World) :
 (Instr.indexAt ty (.pointer (some ad)) (.int k i)).run P w=.ok (.pointer (some (ad.add (i.toNat * t.size)))) w:=by
 simp [Instr.indexAt,asIntOf,run_underlying hu,Instr.sureAddr,hi,run_sizeOf' ht]
end Ev
end Go.Proofs.YtlfcdmibknmjeaaGreatDoor
namespace Go.Proofs.YtlfcdmibknmjeaaGreatDoor
namespace Ev
open Go Go.RowKit
variable {P:Program} {G:List GV} {E:Entry} {fr hp:List SV} {w:World} {β:Nat→BI} {N:Reg} {r:Unit × List SV × List SV} {a:Act} {o:Oper} {T:Tab}
theorem op_indexAddr (hT:tabChk P T=true) {ty:TypeId} {x i:Operand} (ho:o.op=.indexAddr ty x i) (h:Sim G E fr hp a.tmps w β N)
 (hr:run (rdO x fun x=>rdO i fun i=>(match i with
 | .imm (.int _) i=>tyA T ty fun ty=>(match x with
  | .imm (.list t) xs=>eqA ty (.list t) (.br (decide (0 ≤ i∧i < (xs.length:Int))) (setD o.dst (.iptr t (rdL t.zero xs i)) (.pure ())) .fail)
  | .own id ver=>.rd true id fun b=>(match b with
   | .row v _ _ t xs=>eqA ty (.list t) (cond (Nat.beq v ver) (.br (decide (0 ≤ i∧i < (xs.length:Int))) (setD o.dst (.ptr id ver [.idx i] t) (.pure ())) .fail) .fail)
   | _=>.fail)
  | .ptr id ver p u=>eqA u ty (match u with
   | .arr n t=>.br (decide (0 ≤ i∧i < (n:Int))) (appA p (.idx i) fun p=>setD o.dst (.ptr id ver p t) (.pure ())) .fail
   | _=>.fail)
  | .iptr u xs=>eqA u ty (match u,xs with
   | .arr n t,xs=>.br (decide (0 ≤ i∧i < (n:Int))) (setD o.dst (.iptr t (rdL t.zero xs i)) (.pure ())) .fail
   | _,_=>.fail)
  | _=>.fail)
 | _=>.fail):U P G) fr hp=some r):Does P o a w (After G E a r):=by
 obtain ⟨v,hv,hr⟩:=rdO_elim h hr
 obtain ⟨vi,hvi,hr⟩:=rdO_elim h hr
 have fin:∀ {sv:SV} {u:Value},(Instr.indexAt ty (a.eval x) (a.eval i)).run P w=.ok u w→VR β hp w N sv u→run (setD o.dst sv (.pure ()):U P G) fr hp=some r→Does P o a w (After G E a r):=by
  intro sv u hrun hu hr
  exact does_val (by unfold execOp;rw [ho];simp [hrun]) h hu hr
 cases vi with
 | imm ti ix =>
  cases ti with
  | int kk =>
   have ei:=vint hvi
   obtain ⟨t',ht,hr⟩:=tyA_elim hT hr
   cases v with
   | imm tx xs =>
    cases tx with
    | list t =>
     obtain ⟨e,hr1⟩:=eqA_elim hr
     subst e
     obtain ⟨e,hu,hte,_⟩:=tyChk_list ht
     obtain ⟨hb,hr2⟩:=br_ok hr1
     have hb:0 ≤ ix∧ix < (xs.length:Int):=by simpa using hb
     have hx:=imm1 (t:=.list t) rfl hv
     obtain ⟨A,cap,e1,_,hx⟩:=hx
     obtain ⟨hlt,ex⟩:=rdL_get (t:=t) hb
     obtain ⟨ad,c,rfl,hc,hat⟩:=hx ix.toNat hlt
     have e1:a.eval x=.slice (some ad) xs.length cap:=by simpa using e1
     refine fin (sv:=.iptr t (rdL t.zero xs ix)) (u:=.pointer (some (ad.add (ix.toNat * t.size)))) ?_ ?_ hr2
     ·rw [e1,ei];exact run_indexSlice hu hte ad _ _ kk ix hb w
     ·exact (⟨_,c,rfl,by rw [ex];exact hc,hat⟩:∃ ad' cs,Value.pointer (some (ad.add (ix.toNat * t.size)))=.pointer (some ad')∧rel w N t (rdL t.zero xs ix) cs∧At w N ad' cs)
    | _=>exact fail_elim hr
   | own id ver =>
    obtain ⟨h1,h2,h2',h3⟩:=(hv:nth hp id ≠ .none∧ver ≤ bver (nth hp id)∧(a.eval x).oneCell'=true∧∀ sh e t xs,nth hp id=.row ver sh e t xs→a.eval x=(β id).val)
    simp only [run,if_true] at hr
    split at hr
    ·rename_i v' sh e t xs hrow
     obtain ⟨et,hr1⟩:=eqA_elim hr
     subst et
     obtain ⟨hver,hr2⟩:=cond_fail hr1
     have hver:v'=ver:=Nat.eq_of_beq_eq_true hver
     subst hver
     obtain ⟨hb,hr3⟩:=br_ok hr2
     have hb:0 ≤ ix∧ix < (xs.length:Int):=by simpa using hb
     obtain ⟨e',hu,hte,_⟩:=tyChk_list ht
     have e1:=h3 _ _ _ _ hrow
     have hbr:=h.box id
     rw [hrow] at hbr
     obtain ⟨A,cap,e2,_,_,e3,e4⟩:=hbr.1.cells
     obtain ⟨hlt,ex⟩:=rdL_get (t:=t) hb
     obtain ⟨ad,c,rfl,hc,hcell⟩:=e4 ix.toNat hlt
     obtain ⟨a1,a2,a3⟩:=e3 ad rfl
     have hblk:=hbr.2 _ a3
     obtain ⟨ab,ao,as⟩:=ad
     simp only at a1 a2 hblk
     subst a1;subst a2
     refine fin (sv:=.ptr id v' [.idx ix] t) (u:=.pointer (some (Addr.add ⟨ab,0,none⟩ (ix.toNat * t.size)))) ?_ ?_ hr3
     ·rw [e1,e2,ei];exact run_indexSlice hu hte _ _ _ kk ix hb w
     ·refine (⟨h1,h2,⟨_,rfl⟩,fun _=>⟨ix.toNat * t.size + 0,?_,?_⟩⟩:nth hp id ≠ .none∧v' ≤ bver (nth hp id)∧(∃ ad,Value.pointer (some (Addr.add ⟨ab,0,none⟩ (ix.toNat * t.size)))=.pointer (some ad))∧(v'=bver (nth hp id)→∃ o,inBox (β id).bt (nth hp id) [.idx ix]=some (o,t)∧Value.pointer (some (Addr.add ⟨ab,0,none⟩ (ix.toNat * t.size)))=.pointer (some ⟨(β id).blk,o,none⟩)))
      ·rw [hrow];simp only [inBox];rw [if_pos hb];simp [pathOff]
      ·rw [add_lit,hblk];simp
    ·exact fail_elim hr
   | ptr id ver p u =>
    obtain ⟨e,hr1⟩:=eqA_elim hr
    subst e
    obtain ⟨h1,h2,⟨ad,h3⟩,h4⟩:=(hv:nth hp id ≠ .none∧ver ≤ bver (nth hp id)∧(∃ ad,a.eval x=.pointer (some ad))∧(ver=bver (nth hp id)→∃ o,inBox (β id).bt (nth hp id) p=some (o,u)∧a.eval x=.pointer (some ⟨(β id).blk,o,none⟩)))
    cases u with
    | arr n t =>
     obtain ⟨hb,hr2⟩:=br_ok hr1
     have hb:0 ≤ ix∧ix < (n:Int):=by simpa using hb
     obtain ⟨e,hu,hte,_⟩:=tyChk_arr ht
     have hr3:=appA_run p (.idx ix) _ hr2
     refine fin (sv:=.ptr id ver (p ++ [.idx ix]) t) (u:=.pointer (some (ad.add (ix.toNat * t.size)))) ?_ ?_ hr3
     ·rw [h3,ei];exact run_indexArr hu hte ad kk ix hb w
     ·refine (⟨h1,h2,⟨_,rfl⟩,fun hver=>?_⟩:nth hp id ≠ .none∧ver ≤ bver (nth hp id)∧(∃ ad',Value.pointer (some (ad.add (ix.toNat * t.size)))=.pointer (some ad'))∧(ver=bver (nth hp id)→∃ o,inBox (β id).bt (nth hp id) (p ++ [.idx ix])=some (o,t)∧Value.pointer (some (ad.add (ix.toNat * t.size)))=.pointer (some ⟨(β id).blk,o,none⟩)))
      obtain ⟨o',hi,e⟩:=h4 hver
      rw [h3] at e
      cases e
      exact ⟨_,inBox_snoc hi (by simp only [stepOff];rw [if_pos hb]),by rw [add_lit]⟩
    | _=>exact fail_elim hr1
   | iptr u xs =>
    obtain ⟨e,hr1⟩:=eqA_elim hr
    subst e
    obtain ⟨ad,cs,e,h1,h2⟩:=(hv:∃ ad cs,a.eval x=.pointer (some ad)∧rel w N u xs cs∧At w N ad cs)
    cases u with
    | arr n t =>
     obtain ⟨hb,hr2⟩:=br_ok hr1
     have hb:0 ≤ ix∧ix < (n:Int):=by simpa using hb
     obtain ⟨e',hu,hte,_⟩:=tyChk_arr ht
     refine fin (sv:=.iptr t (rdL t.zero xs ix)) (u:=.pointer (some (ad.add (ix.toNat * t.size)))) ?_ ?_ hr2
     ·rw [e,ei];exact run_indexArr hu hte ad kk ix hb w
     ·exact (⟨_,_,rfl,rel_arr_at h1 hb,h2.sub _ _⟩:∃ ad' cs,Value.pointer (some (ad.add (ix.toNat * t.size)))=.pointer (some ad')∧rel w N t (rdL t.zero xs ix) cs∧At w N ad' cs)
    | _=>exact fail_elim hr1
   | _=>exact fail_elim hr
  | _=>exact fail_elim hr
 | _=>exact fail_elim hr
theorem key_lt (j:Int) (n:Nat) (h:0 ≤ j∧j < (n:Int)):j.toNat < n:=by omega
theorem op_index (hT:tabChk P T=true) {ty:TypeId} {x i:Operand} (ho:o.op=.index ty x i) (h:Sim G E fr hp a.tmps w β N)
 (hr:run (rdO x fun x=>rdO i fun i=>(match i with
 | .imm (.int _) i=>tyA T ty fun ty=>(match x with
  | .imm .str s=>eqA ty .str (.br (decide (0 ≤ i∧i < (s.size:Int))) (setD o.dst (.imm (.int .u8) (bAt s i)) (.pure ())) .fail)
  | .imm (.arr n t) xs=>eqA ty (.arr n t) (.br (decide (0 ≤ i∧i < (n:Int))) (setD o.dst (.imm t (rdL t.zero xs i)) (.pure ())) .fail)
  | _=>.fail)
 | _=>.fail):U P G) fr hp=some r):Does P o a w (After G E a r):=by
 obtain ⟨v,hv,hr⟩:=rdO_elim h hr
 obtain ⟨vi,hvi,hr⟩:=rdO_elim h hr
 have fin:∀ {sv:SV} {u:Value},(Instr.index ty (a.eval x) (a.eval i)).run P w=.ok u w→VR β hp w N sv u→run (setD o.dst sv (.pure ()):U P G) fr hp=some r→Does P o a w (After G E a r):=by
  intro sv u hrun hu hr
  exact does_val (by unfold execOp;rw [ho];simp [hrun]) h hu hr
 cases vi with
 | imm ti ix =>
  cases ti with
  | int kk =>
   have ei:=vint hvi
   obtain ⟨t',ht,hr⟩:=tyA_elim hT hr
   cases v with
   | imm tx xs =>
    cases tx with
    | str =>
     obtain ⟨e,hr1⟩:=eqA_elim hr
     subst e
     obtain ⟨hb,hr2⟩:=br_ok hr1
     have ex:=vstr hv
     generalize (xs:ByteArray)=xs at *
     have hb:0 ≤ ix∧ix < ((ByteArray.size xs:Nat):Int):=by simpa using hb
     have hlt:ix.toNat < ByteArray.size xs:=key_lt _ _ hb
     refine fin (u:=.int .u8 (bAt xs ix)) ?_ (ivint _ _) hr2
     rw [ex,ei]
     have hget:xs[ix.toNat]?=some xs[ix.toNat]:=by simp [hlt]
     have hb2:bAt xs ix=(xs[ix.toNat].toNat:Int):=by
      unfold bAt
      have:ix.toNat < xs.data.toList.length:=hlt
      rw [List.getD_eq_getElem?_getD,List.getElem?_eq_getElem this]
      rfl
     simp [Instr.index,asIntOf,run_underlying (tyChk_str ht),hb.1,hget,hb2]
    | arr n t =>
     obtain ⟨e,hr1⟩:=eqA_elim hr
     subst e
     obtain ⟨hb,hr2⟩:=br_ok hr1
     have hb:0 ≤ ix∧ix < (n:Int):=by simpa using hb
     obtain ⟨e',hu,hte,_⟩:=tyChk_arr ht
     obtain ⟨cs,e1,_,h1⟩:=agg_val (t:=.arr n t) rfl hv
     have hrel:=rel_arr_at h1 hb
     have hl:=rel_len _ _ _ h1
     have hle:=idx_le (s:=t.size) hb
     simp only [Ty.size] at hl
     obtain ⟨pre,post,hs,hp'⟩:=split_sub cs (o:=ix.toNat * t.size) (n:=t.size) (by omega)
     have hpart:=run_part hte w pre (sub cs (ix.toNat * t.size) t.size) post (rel_len _ _ _ hrel)
     rw [← hs,hp'] at hpart
     refine fin (sv:=.imm t (rdL t.zero xs ix)) (u:=valOf t (sub cs (ix.toNat * t.size) t.size)) ?_ ⟨_,hrel,rfl⟩ hr2
     rw [e1,ei]
     simp [Instr.index,asIntOf,run_underlying hu,hb,run_sizeOf' hte,hpart]
    | _=>exact fail_elim hr
   | _=>exact fail_elim hr
  | _=>exact fail_elim hr
 | _=>exact fail_elim hr
end Ev
end Go.Proofs.YtlfcdmibknmjeaaGreatDoor
namespace Go.Proofs.YtlfcdmibknmjeaaGreatDoor
namespace Ev
open Go Go.RowKit
variable {P:Program} {G:List GV} {E:Entry} {fr hp:List SV} {w:World} {β:Nat→BI} {N:Reg} {r:Unit × List SV × List SV} {a:Act} {o:Oper} {T:Tab}
theorem newRow_elim {id:Nat} {e:TypeId} {t:Ty} {xs:List t.denote} {k:SV→U P G} (hr:run (Ev.newRow id e t xs k) fr hp=some r) :
 ∃ v,id < hp.length∧(nth hp id=.none ∨ (kindB (nth hp id) ≤ 1∧bver (nth hp id) < v))∧run (k (.own id v)) fr (put hp id (.row v false e t xs))=some r:=by
 simp only [Ev.newRow,freshA,run,if_true] at hr
 split at hr
 ·rename_i h0
  obtain ⟨h1,h2⟩:=wrB_elim hr (by simp)
  exact ⟨0,h1,.inl h0,h2⟩
 ·rename_i v sh e' t' xs' h0
  obtain ⟨h1,h2⟩:=wrB_elim hr (by simp)
  exact ⟨v + 1,h1,.inr (by rw [h0];exact ⟨Nat.le_refl _,Nat.lt_succ_self v⟩),h2⟩
 ·rename_i v h0
  obtain ⟨h1,h2⟩:=wrB_elim hr (by simp)
  exact ⟨v + 1,h1,.inr (by rw [h0];exact ⟨Nat.zero_le _,Nat.lt_succ_self v⟩),h2⟩
 ·exact fail_elim hr
structure Grow (w w':World):Prop where
 os:w'.os=w.os
 tape:w'.tape=w.tape
 output:w'.output=w.output
 size:w.heap.size ≤ w'.heap.size
 block:∀ k,k < w.heap.size→w'.heap[k]?=w.heap[k]?
theorem Grow.ext {w w':World} (h:Grow w w') (hN:∀ b o,N b o→b < w.heap.size):Ext w N w' N:=fun b o hb=>⟨hb,by
 unfold World.cell?;rw [h.block b (hN b o hb)]⟩
theorem Grow.alloc (w:World) (ob:Obj):Grow w (w.alloc ob):=⟨rfl,rfl,rfl,by rw [size_alloc];omega,fun k hk=>Below.heap_alloc w ob k hk⟩
theorem Grow.drewAlloc (w:World) (ob:Obj):Grow w (w.drew.alloc ob):=⟨rfl,rfl,rfl,by rw [size_alloc];show w.heap.size ≤ w.heap.size + 1;omega,fun k hk=>Below.heap_alloc w.drew ob k hk⟩
theorem Sim.newRow (h:Sim G E fr hp a.tmps w β N) {id v:Nat} {e:TypeId} {t:Ty} {xs:List t.denote} {w':World} {u:Value} (hin:id < hp.length) (hv:nth hp id=.none ∨ (kindB (nth hp id) ≤ 1∧bver (nth hp id) < v)) (hg:Grow w w')
 (hrow:RowAt w' N e t false xs u) (hnew:∀ g,u.ownBlock=some g→w.heap.size ≤ g∧g < w'.heap.size) :
 ∃ x,Sim G E fr (put hp id (.row v false e t xs)) a.tmps w' (upd β id x) N∧VR (upd β id x) (put hp id (.row v false e t xs)) w' N (.own id v) u∧Later β hp (upd β id x) (put hp id (.row v false e t xs))∧Ext w N w' N:=by
 have hE:=hg.ext h.ok
 let x:BI:=⟨(u.ownBlock).getD 0,u,t⟩
 have ht:Turn β hp w N id x (.row v false e t xs) w' N:=by
  refine ⟨hin,by simp,?_,hE,fun i _ g hg'=>⟨hg.block g (h.bnd _ _ hg').1,fun _ ho=>ho⟩,fun g hg'=>?_,fun k hk _=>hg.block k hk,hg.os,hg.tape,hg.output,hg.size,fun c o ho=>.inl ho,fun c o ho=>Nat.lt_of_lt_of_le (h.ok c o ho) hg.size⟩
  ·rcases hv with hv | hv
   ·exact .inl hv
   ·exact .inr (.inl hv)
  ·exact ⟨.inr (hnew g hg').1,(hnew g hg').2⟩
 refine ⟨x,h.turn ht ⟨by rw [upd_eq];exact hrow,by rw [upd_eq];intro g hg';show (u.ownBlock).getD 0=g;rw [hg'];rfl⟩,?_,ht.later,hE⟩
 have hone:u.oneCell'=true:=by
  obtain ⟨⟨css,_,_,hh⟩,_⟩:=hrow
  rcases hh.2 with ⟨rfl,_⟩ | ⟨g,cap,cur,rfl,_⟩ <;> rfl
 refine (⟨by rw [nth_put_eq _ _ _ hin];simp,by rw [nth_put_eq _ _ _ hin];exact Nat.le_refl _,hone,fun _ _ _ _ _=>by rw [upd_eq]⟩ :
  nth (put hp id (.row v false e t xs)) id ≠ .none∧v ≤ bver (nth (put hp id (.row v false e t xs)) id)∧u.oneCell'=true∧∀ sh e' t' xs',nth (put hp id (.row v false e t xs)) id=.row v sh e' t' xs'→u=(upd β id x id).val)
theorem RowAt.of_block {w':World} {g cap:Nat} {e:TypeId} {t:Ty} {xs:List t.denote} {css:List (List Value)} {rest:List Value} (hN:∀ o,¬ N g o) (hg:w'.heap[g]?=some (.cells (css.flatten ++ rest).toArray e (0,0)))
 (hl:css.length=xs.length) (hc:∀ i (h:i < xs.length) (h':i < css.length),rel w' N t xs[i] css[i]) (hcap:xs.length ≤ cap) (hm:cap ≤ maxLen) (hr:(css.flatten ++ rest).length=cap * t.size) :
 RowAt w' N e t false xs (.slice (some ⟨g,0,none⟩) xs.length cap):=by
 have hlen:∀ c ∈ css,c.length=t.size:=fun c hc'=>by
  obtain ⟨k,hk,rfl⟩:=List.getElem_of_mem hc'
  exact rel_len t _ _ (hc k (by omega) hk)
 have hfl:=flatten_len css hlen
 refine ⟨⟨css,hl,hc,by rw [hfl,hl],.inr ⟨g,cap,_,rfl,Nat.zero_le _,hg,hcap,hm,by simpa using hr,?_⟩⟩,fun g' hg' o ho=>?_⟩
 ·rw [← hl,← hfl]
  simp
 ·cases hg'
  exact (hN o ho).elim
theorem noN (h:Sim G E fr hp a.tmps w β N) (o:Nat):¬ N w.heap.size o:=fun hN=>Nat.lt_irrefl _ (h.ok _ _ hN)
theorem Reads.cells {t:Ty} {xs:List t.denote} {u:Value} (h:Reads w N t xs u) (hx:xs ≠ []):∃ (ad:Addr) (cap:Nat) (css:List (List Value)),u=.slice (some ad) xs.length cap∧css.length=xs.length∧(∀ i (h:i < xs.length) (h':i < css.length),rel w N t xs[i] css[i]) ∧
 ∀ j v,css.flatten[j]?=some v→w.cell? (ad.add j)=some v:=by
 obtain ⟨A,cap,rfl,_,h⟩:=h
 have hpos:0 < xs.length:=by cases xs with | nil=>exact (hx rfl).elim | cons x xs=>simp
 obtain ⟨ad,_,rfl,_⟩:=h 0 hpos
 have hch:∀ i,∃ c,∀ hi:i < xs.length,rel w N t xs[i] c∧∀ j (hj:j < c.length),w.cell? ((ad.add (i * t.size)).add j)=some c[j]:=by
  intro i
  by_cases hi:i < xs.length
  ·obtain ⟨ad',c,e,h1,h2⟩:=h i hi
   cases e
   exact ⟨c,fun _=>⟨h1,h2⟩⟩
  ·exact ⟨[],fun h=>(hi h).elim⟩
 let f:Nat→List Value:=fun i=>Classical.choose (hch i)
 have hf:∀ i (hi:i < xs.length),rel w N t xs[i] (f i)∧∀ j (hj:j < (f i).length),w.cell? ((ad.add (i * t.size)).add j)=some (f i)[j]:=fun i hi=>Classical.choose_spec (hch i) hi
 refine ⟨ad,cap,(List.range xs.length).map f,rfl,by simp,fun i hi hi'=>by simpa using (hf i hi).1,fun j v hj=>?_⟩
 have hlen:∀ c ∈ (List.range xs.length).map f,c.length=t.size:=fun c hc=>by
  obtain ⟨k,hk,rfl⟩:=List.mem_map.1 hc
  exact rel_len t _ _ (hf k (by simpa using hk)).1
 have hfl:=flatten_len _ hlen
 have hjl:j < xs.length * t.size:=by
  have:=(List.getElem?_eq_some_iff.1 hj).1
  rw [hfl] at this
  simpa using this
 have hs:0 < t.size:=by
  rcases Nat.eq_zero_or_pos t.size with h0 | h0
  ·rw [h0] at hjl;simp at hjl
  ·exact h0
 have hi:j / t.size < xs.length:=(Nat.div_lt_iff_lt_mul hs).2 hjl
 have hk:j % t.size < t.size:=Nat.mod_lt _ hs
 have hfi:=hf (j / t.size) hi
 have hl1:=rel_len t _ _ hfi.1
 have hdm:j / t.size * t.size + j % t.size=j:=by rw [Nat.mul_comm];exact Nat.div_add_mod j t.size
 have hget:=flat_get ((List.range xs.length).map f) hlen (j / t.size) (j % t.size) (by simpa using hi) (by simpa using (by omega:j % t.size < (f (j / t.size)).length))
 rw [hdm] at hget
 rw [hget] at hj
 have hc:=hfi.2 (j % t.size) (by omega)
 rw [add_add,hdm] at hc
 rw [hc]
 simpa using hj
end Ev
end Go.Proofs.YtlfcdmibknmjeaaGreatDoor
namespace Go.Proofs.YtlfcdmibknmjeaaGreatDoor
namespace Ev
open Go Go.RowKit
variable {P:Program} {G:List GV} {E:Entry} {fr hp:List SV} {w:World} {β:Nat→BI} {N:Reg} {r:Unit × List SV × List SV} {a:Act} {o:Oper} {T:Tab}
theorem zeros_flat (zs:Array Value) {s:Nat} (hs:zs.size=s) (h0:0 < s):∀ n,((Array.range (n * s)).map (zs[· % zs.size]!)).toList=(List.replicate n zs.toList).flatten
 | 0=>by simp
 | n + 1=>by
  have ih:=zeros_flat zs hs h0 n
  simp only [Array.toList_map,Array.toList_range] at ih ⊢
  rw [Nat.succ_mul,List.range_add,List.map_append,ih,List.replicate_succ',List.flatten_append]
  congr 1
  simp only [List.map_map,List.flatten_cons,List.flatten_nil,List.append_nil]
  apply List.ext_getElem
  ·simp [hs]
  ·intro i h1 h2
   simp only [List.length_map,List.length_range] at h1
   simp only [List.getElem_map,List.getElem_range,Function.comp]
   have:(n * s + i) % zs.size=i:=by rw [hs,Nat.mul_comm,Nat.mul_add_mod,Nat.mod_eq_of_lt h1]
   rw [this]
   have hi:i < zs.size:=by omega
   simp [hi]
theorem run_make {ty e:TypeId} {t:Ty} {i:TypeInfo} {z:Value} (hu:P.underlying ty=some (.slice e)) (hi:InfoOk P t e i z) (kl kc:IntKind) (ln cn:Int) (hb:0 ≤ ln∧ln ≤ cn∧cn ≤ (roomN:Int)) (w:World) :
 (Instr.makeSlice ty (.int kl ln) (.int kc cn)).run P w=.ok (.slice (some ⟨w.heap.size,0,none⟩) ln.toNat cn.toNat) (w.alloc (.cells ((Array.range (cn.toNat * t.size)).map (z.cells[· % z.cells.size]!)) e)):=by
 obtain ⟨b1,b2,b3⟩:=hb
 unfold roomN at b3
 have hby:=hi.bytes
 have h1:IntKind.i64.wrap ln=ln:=by simp [IntKind.wrap,IntKind.bits,IntKind.signed];omega
 have h2:IntKind.i64.wrap cn=cn:=by simp [IntKind.wrap,IntKind.bits,IntKind.signed];omega
 have h3:(i.bytes:Int) * cn ≤ 140737488355328:=by
  have:(i.bytes:Int) * cn ≤ 2048 * 68719476736:=Int.mul_le_mul (by omega) b3 (by omega) (by omega)
  omega
 have h4:¬ cn < 0:=by omega
 have h5:¬ ln < 0:=by omega
 have h6:¬ cn < ln:=by omega
 have h8:¬ 281474976710656 < (i.bytes:Int) * cn:=by omega
 by_cases hz:cn.toNat * t.size=0
 ·simp [Instr.makeSlice,run_underlying hu,asInt,asIntOf,typeInfo,hi.info,h1,h2,h4,h5,h6,h8,askRoom,sizeOf,hi.size,hz,Go.newRow,Array.range_zero']
 ·simp [Instr.makeSlice,run_underlying hu,asInt,asIntOf,typeInfo,hi.info,h1,h2,h4,h5,h6,h8,askRoom,sizeOf,hi.size,hz,Go.newRow,zeroValue,hi.zero]
theorem op_makeSlice (hT:tabChk P T=true) {ty:TypeId} {l c:Operand} (ho:o.op=.makeSlice ty l c) (h:Sim G E fr hp a.tmps w β N)
 (hr:run (rdO l fun l=>rdO c fun c=>tyE T ty fun ty e=>(match ty with
 | .list t=>(match l with
  | .imm (.int _) l=>(match c with
   | .imm (.int _) c=>(match o.dst with
    | some d=>.br (decide (0 ≤ l∧l ≤ c∧c ≤ (roomN:Int))) (Ev.newRow d e t (List.replicate l.toNat t.zero) fun v=>setD o.dst v (.pure ())) .fail
    | none=>.fail)
   | _=>.fail)
  | _=>.fail)
 | _=>.fail):U P G) fr hp=some r):Does P o a w (After G E a r):=by
 obtain ⟨vl,hvl,hr⟩:=rdO_elim h hr
 obtain ⟨vc,hvc,hr⟩:=rdO_elim h hr
 obtain ⟨t',e,ht,he,hr⟩:=tyE_elim hT hr
 cases t' with
 | list t =>
  obtain ⟨hu,hte⟩:=he t rfl
  obtain ⟨_,_,_,hpos⟩:=tyChk_list ht
  cases vl with
  | imm tl ln =>
   cases tl with
   | int kl =>
    cases vc with
    | imm tc cn =>
     cases tc with
     | int kc =>
      have el:=vint hvl
      have ec:=vint hvc
      cases hd:o.dst with
      | none=>rw [hd] at hr;exact fail_elim hr
      | some d =>
       simp only [hd] at hr
       obtain ⟨hb,hr⟩:=br_ok hr
       have hb:0 ≤ ln∧ln ≤ cn∧cn ≤ (roomN:Int):=by simpa using hb
       obtain ⟨v,hin,hv,hr⟩:=newRow_elim hr
       obtain ⟨i,z,hi⟩:=tyChk_info hte
       have hrun:=run_make (P:=P) hu hi kl kc ln cn hb w
       have hzl:=rel_len _ _ _ (zrel w N t _ hi.zok)
       have hzs:z.cells.size=t.size:=by simpa using hzl
       have hflat:=zeros_flat z.cells hzs hpos cn.toNat
       have hln:∀ (ln cn:Int),0 ≤ ln∧ln ≤ cn∧cn ≤ (roomN:Int)→ln.toNat ≤ cn.toNat∧cn.toNat ≤ maxLen:=by intro ln cn ⟨b1,b2,b3⟩;unfold roomN at b3;unfold maxLen;omega
       obtain ⟨hlc,hcm⟩:=hln ln cn hb
       have hsplit:(List.replicate cn.toNat z.cells.toList).flatten=(List.replicate ln.toNat z.cells.toList).flatten ++ (List.replicate (cn.toNat - ln.toNat) z.cells.toList).flatten:=by
        rw [← List.flatten_append,List.replicate_append_replicate]
        congr 2;omega
       have hcells:(Array.range (cn.toNat * t.size)).map (z.cells[· % z.cells.size]!)=((List.replicate ln.toNat z.cells.toList).flatten ++ (List.replicate (cn.toNat - ln.toNat) z.cells.toList).flatten).toArray:=by
        apply Array.ext'
        rw [hflat,hsplit]
       rw [hcells] at hrun
       have hg:Grow w (w.alloc (.cells ((List.replicate ln.toNat z.cells.toList).flatten ++ (List.replicate (cn.toNat - ln.toNat) z.cells.toList).flatten).toArray e)):=Grow.alloc w _
       have hrow:=RowAt.of_block (N:=N) (w':=w.alloc (.cells ((List.replicate ln.toNat z.cells.toList).flatten ++ (List.replicate (cn.toNat - ln.toNat) z.cells.toList).flatten).toArray e)) (e:=e) (t:=t) (g:=w.heap.size) (cap:=cn.toNat)
        (xs:=List.replicate ln.toNat t.zero) (css:=List.replicate ln.toNat z.cells.toList) (rest:=(List.replicate (cn.toNat - ln.toNat) z.cells.toList).flatten) (noN h) (heap_new w _) (by simp) (fun i h1 h2=>by
         simp only [List.getElem_replicate];exact zrel _ N t _ hi.zok) (by simpa using hlc) hcm (by
         rw [← hsplit,flatten_len _ (n:=t.size) (fun c hc=>by rw [List.eq_of_mem_replicate hc];exact hzl)];simp)
       simp only [List.length_replicate] at hrow
       obtain ⟨x,hs,hvr,_,_⟩:=h.newRow hin hv hg hrow (fun g hg'=>by cases hg';exact ⟨Nat.le_refl _,by rw [size_alloc];exact Nat.lt_succ_self _⟩)
       exact does_val (by unfold execOp;rw [ho];simp [el,ec,hrun]) hs hvr (by rw [hd];exact hr)
     | _=>exact fail_elim hr
    | _=>exact fail_elim hr
   | _=>cases vc <;> exact fail_elim hr
  | _=>exact fail_elim hr
 | _=>exact fail_elim hr
end Ev
end Go.Proofs.YtlfcdmibknmjeaaGreatDoor
namespace Go.Proofs.YtlfcdmibknmjeaaGreatDoor
namespace Ev
open Go Go.RowKit
variable {P:Program} {G:List GV} {E:Entry} {fr hp:List SV} {w:World} {β:Nat→BI} {N:Reg} {r:Unit × List SV × List SV} {a:Act} {o:Oper} {T:Tab}
theorem lookI_mem:∀ (ps:List (Nat × Operand)) (i:Nat) (o:Operand),freshI ps=true→(i,o) ∈ ps→lookI ps i=some o
 | p :: ps,i,o,hf,hm=>by
  obtain ⟨j,q⟩:=p
  simp only [freshI,Bool.and_eq_true] at hf
  simp only [lookI]
  rcases List.mem_cons.1 hm with e | hm
  ·cases e;rw [Nat.beq_refl];rfl
  ·have ih:=lookI_mem ps i o hf.2 hm
   cases hb:Nat.beq j i with
   | true =>
    have:j=i:=Nat.eq_of_beq_eq_true hb
    subst this
    have h1:=hf.1
    rw [ih] at h1
    cases h1
   | false=>exact ih
theorem ltI_mem:∀ (n:Nat) (ps:List (Nat × Operand)),ltI n ps=true→∀ p ∈ ps,p.1 < n
 | n,p :: ps,h,q,hq=>by
  obtain ⟨j,x⟩:=p
  simp only [ltI,Bool.and_eq_true] at h
  rcases List.mem_cons.1 hq with rfl | hq
  ·have h1:=h.1
   unfold Nat.blt at h1
   exact Nat.le_of_ble_eq_true h1
  ·exact ltI_mem n ps h.2 q hq
theorem len_zcss:∀ (t:Ty) (cs:List Value),(zcss t cs).length=nflds t
 | .pair a b,cs=>by simp [zcss,nflds,len_zcss b]
 | .int _,_=>rfl | .bool,_=>rfl | .str,_=>rfl | .unit,_=>rfl | .opq,_=>rfl | .list _,_=>rfl | .arr _ _,_=>rfl
theorem parts_ok (a:Act) (ps:List (Nat × Operand)) (css:List (List Value)) (hf:freshI ps=true) (hlt:ltI css.length ps=true) (hl:∀ j (hj:j < css.length),(partC a ps j css[j]).length=(css[j]).length) :
 ∀ p ∈ partsV a ps,∃ h:p.1 < css.length,p.2.cells.size=css[p.1].length:=by
 intro p hp
 obtain ⟨q,hq,rfl⟩:=List.mem_map.1 hp
 have h1:=ltI_mem _ _ hlt q hq
 refine ⟨h1,?_⟩
 have h2:=hl q.1 h1
 unfold partC at h2
 rw [lookI_mem ps q.1 q.2 hf hq] at h2
 rw [← h2]
 simp
theorem fillL_eq (a:Act) (ps:List (Nat × Operand)) (css:List (List Value)) (hf:freshI ps=true):fillL css (partsV a ps)=css.mapIdx fun j c=>partC a ps j c:=by
 apply List.ext_getElem
 ·simp [len_fillL]
 ·intro i h1 h2
  have hi:i < css.length:=by simpa [len_fillL] using h1
  rw [fillL_at a ps css i hi hf]
  simp [partC]
theorem built_struct {t:Ty} {ty:TypeId} (ht:tyChk P t none ty=true) (ha:t.isAgg=true) (hn:∀ n u,t ≠ .arr n u) (a:Act) (ps:Array (Nat × Operand)) (hf:freshI ps.toList=true) (hlt:ltI (nflds t) ps.toList=true) {i:TypeInfo} {z:Value} (hi:InfoOk P t ty i z)
 (hl:∀ j (hj:j < (zcss t z.cells.toList).length),(partC a ps.toList j (zcss t z.cells.toList)[j]).length=((zcss t z.cells.toList)[j]).length) :
 P.built ty (ps.map fun (i,x)=>(i,a.eval x)).toList=some ((zcss t z.cells.toList).mapIdx fun j c=>partC a ps.toList j c).flatten.toArray:=by
 obtain ⟨fs,hu,hfl⟩:=tyChk_struct ht hn ha
 obtain ⟨hz1,hz2⟩:=zcss_flat t _ _ _ hfl hi.zok
 have hpl:=zcss_place t _ _ _ hfl hi.zok
 have hpv:(ps.map fun (i,x)=>(i,a.eval x)).toList=partsV a ps.toList:=by simp [partsV]
 have hpa:=parts_ok a ps.toList (zcss t z.cells.toList) hf (by rw [len_zcss];exact hlt) hl
 have hplaces:∃ places,fs.toList.mapM (fun (f:Field)=>(P.info? f.type).map fun i=>(f.offset,i.size))=some places∧places.length=fs.toList.length∧∀ (j:Nat) (f:Field),fs.toList[j]?=some f→∃ i,P.info? f.type=some i∧places[j]?=some (f.offset,i.size):=by
  have gen:∀ (fs:List Field),(∀ (j:Nat) (f:Field),fs[j]?=some f→∃ i,P.info? f.type=some i)→∃ places,fs.mapM (fun (f:Field)=>(P.info? f.type).map fun i=>(f.offset,i.size))=some places∧places.length=fs.length∧∀ (j:Nat) (f:Field),fs[j]?=some f→∃ i,P.info? f.type=some i∧places[j]?=some (f.offset,i.size):=by
   intro fs
   induction fs with
   | nil=>intro _;exact ⟨[],rfl,rfl,fun j f hj=>by simp at hj⟩
   | cons f fs ih =>
    intro h
    obtain ⟨i,hi⟩:=h 0 f rfl
    obtain ⟨pl,h1,h2,h3⟩:=ih (fun j g hj=>h (j + 1) g (by simpa using hj))
    refine ⟨(f.offset,i.size) :: pl,by simp [List.mapM_cons,hi,h1],by simp [h2],fun j g hj=>?_⟩
    cases j with
    | zero=>simp at hj;subst hj;exact ⟨i,hi,rfl⟩
    | succ j=>obtain ⟨k,h4,h5⟩:=h3 j g (by simpa using hj);exact ⟨k,h4,by simpa using h5⟩
  refine gen _ (fun j f hj=>?_)
  have hjl:j < fs.toList.length:=(List.getElem?_eq_some_iff.1 hj).1
  obtain ⟨g,u,e1,_,e3,_⟩:=hpl j (by rw [hz2];exact hjl)
  rw [hj] at e1;cases e1
  obtain ⟨k,_,hk⟩:=tyChk_info e3
  exact ⟨k,hk.info⟩
 obtain ⟨places,hp1,hp2,hp3⟩:=hplaces
 have hplace:∀ j (hj:j < (zcss t z.cells.toList).length),places.toArray[j]?=some ((((zcss t z.cells.toList).take j).flatten).length,((zcss t z.cells.toList)[j]).length):=by
  intro j hj
  obtain ⟨f,u,e1,e2,e3,e4,_⟩:=hpl j hj
  obtain ⟨k,k1,k2⟩:=hp3 j f e1
  obtain ⟨k',z',hk⟩:=tyChk_info e3
  have hk0:=hk.info
  rw [k1] at hk0
  cases hk0
  rw [e2,hk.size,← e4,Nat.zero_add] at k2
  simpa using k2
 have hfill:=fill_run (places.toArray[·]?) (partsV a ps.toList) (zcss t z.cells.toList) hplace hpa
 rw [hz1,fillL_eq a _ _ hf] at hfill
 unfold Program.built
 rw [hi.info,hu,hpv]
 simp only [hi.zero,hp1]
 rw [← hfill]
theorem ex_build {ty:TypeId} {ps:Array (Nat × Operand)} (ho:o.op=.build ty ps) {u:Value} (hrun:(Instr.build ty (ps.map fun (i,x)=>(i,a.eval x))).run P w=.ok u w):(execOp a.eval o).run P w=.ok (.value u) w:=by
 have:execOp a.eval o=(do let v ← Instr.build ty (ps.map fun (i,x)=>(i,a.eval x));pure (.value v):Sem Next):=by unfold execOp;rw [ho]
 rw [this]
 simp only [Sem.run_bind,hrun,Result.andThen_ok,Sem.run_pure]
theorem op_buildS {ty:TypeId} {t:Ty} {ps:Array (Nat × Operand)} (ho:o.op=.build ty ps) (ht:tyChk P t none ty=true) (hn:∀ n u,t ≠ .arr n u) (hf:freshI ps.toList=true) (h:Sim G E fr hp a.tmps w β N)
 (hr:run (cond (ltI (nflds t) ps.toList) (fieldsA t 0 ps.toList fun vs=>joinA t vs (fun x=>setD o.dst (.imm t x) (.pure ())) (setD o.dst (.agg t vs) (.pure ()))) .fail:U P G) fr hp=some r):Does P o a w (After G E a r):=by
 obtain ⟨hlt,hr⟩:=cond_fail hr
 obtain ⟨i,z,hi⟩:=tyChk_info ht
 obtain ⟨vs,hc,hl,hr⟩:=fieldsA_elim h t 0 ps.toList z.cells.toList _ hi.zok hr
 simp only [Nat.zero_add] at hc hl
 have ha:t.isAgg=true:=by
  cases t with
  | pair a b=>rfl
  | unit=>rfl
  | arr n u=>rfl
  | _=>exact (hc:False).elim
 have hb:=built_struct ht ha hn a ps hf hlt hi hl
 have hrun:=run_build (P:=P) w ty (ps.map fun (i,x)=>(i,a.eval x)) _ hb
 rcases joinA_elim t vs _ _ _ hr hc with ⟨x,hx,hr⟩ | hr
 ·exact does_val (v:=.imm t x) (ex_build ho hrun) h ⟨_,hx,by unfold valOf;rw [ha]⟩ hr
 ·exact does_val (v:=.agg t vs) (ex_build ho hrun) h (⟨_,rfl,hc.agg⟩:∃ cs,_=Value.agg cs.toArray∧CR β hp w N t false (.agg t vs) [] cs) hr
theorem uni_place {n:Nat} (css:List (List Value)) (h:∀ c ∈ css,c.length=n):∀ j (hj:j < css.length),some (j * n,n)=some (((css.take j).flatten).length,(css[j]).length):=by
 intro j hj
 rw [flatten_len _ (n:=n) (fun c hc=>h c (List.mem_of_mem_take hc)),h _ (List.getElem_mem hj),List.length_take,Nat.min_eq_left (by omega)]
theorem elems_css {t:Ty} {ps:List (Nat × Operand)} {xs:List t.denote} {css:List (List Value)} (hlen:xs.length=css.length) (z:Nat→List Value) (hz:∀ j (hj:j < css.length),z j=css[j])
 (hx:∀ j (hj:j < xs.length),rel w N t xs[j] (partC a ps (0 + j) (z (0 + j)))):(∀ j (hj:j < css.length),rel w N t (xs[j]'(by omega)) (partC a ps j css[j])):=by
 intro j hj
 have:=hx j (by omega)
 simp only [Nat.zero_add] at this
 rw [hz j hj] at this
 exact this
theorem op_buildA {ty:TypeId} {n:Nat} {u:Ty} {ps:Array (Nat × Operand)} (ho:o.op=.build ty ps) (ht:tyChk P (.arr n u) none ty=true) (hf:freshI ps.toList=true) (h:Sim G E fr hp a.tmps w β N)
 (hr:run (cond (ltI n ps.toList) (elemsA u n 0 ps.toList fun xs=>setD o.dst (.imm (.arr n u) xs) (.pure ())) .fail:U P G) fr hp=some r):Does P o a w (After G E a r):=by
 obtain ⟨hlt,hr⟩:=cond_fail hr
 obtain ⟨i,z,hi⟩:=tyChk_info ht
 obtain ⟨e,hu,hte,_⟩:=tyChk_arr ht
 obtain ⟨ie,ze,hie⟩:=tyChk_info hte
 have hzl:∀ c,zChk u c=true→c.length=u.size:=fun c hc=>rel_len u _ _ (zrel w N u c hc)
 obtain ⟨css,c1,c2,c3⟩:=zArr_some (n:=n) hi.zok hzl
 obtain ⟨hp',N',xs,g,hxl,hx,hr⟩:=elemsA_elim (z:=fun j=>if hj:j < css.length then css[j] else ze.cells.toList) (fun j=>by
  show zChk u (if hj:j < css.length then css[j] else ze.cells.toList)=true
  split
  ·exact c3 _ (List.getElem_mem _)
  ·exact hie.zok) n 0 ps.toList _ hp N h hr
 have hx2:=elems_css (css:=css) (by omega) (fun j=>if hj:j < css.length then css[j] else ze.cells.toList) (fun j hj=>by simp [hj]) hx
 have hcl:∀ c ∈ css,c.length=u.size:=fun c hc=>hzl c (c3 c hc)
 have hpa:=parts_ok a ps.toList css hf (by rw [c2];exact hlt) (fun j hj=>by rw [rel_len u _ _ (hx2 j hj),hcl _ (List.getElem_mem hj)])
 have hfill:=fill_run (fun i=>some (i * u.size,u.size)) (partsV a ps.toList) css (uni_place css hcl) hpa
 rw [fillL_eq a _ _ hf] at hfill
 have hpv:(ps.map fun (i,x)=>(i,a.eval x)).toList=partsV a ps.toList:=by simp [partsV]
 have hza:z.cells=css.flatten.toArray:=by apply Array.ext';rw [c1]
 have hb:P.built ty (ps.map fun (i,x)=>(i,a.eval x)).toList=some (css.mapIdx fun j c=>partC a ps.toList j c).flatten.toArray:=by
  unfold Program.built
  rw [hi.info,hu,hpv]
  simp only [hi.zero,hie.info,hie.size,hza]
  exact hfill
 have hrun:=run_build (P:=P) w ty (ps.map fun (i,x)=>(i,a.eval x)) _ hb
 refine does_gh (v:=.imm (.arr n u) xs) (ex_build ho hrun) g ⟨_,⟨hxl,_,rfl,by simp [c2],fun j hj hj'=>?_⟩,rfl⟩ hr
 have hj2:j < css.length:=by omega
 simpa using hx2 j hj2
theorem op_buildSlice (hT:tabChk P T=true) {ty:TypeId} {n:Nat} {ps:Array (Nat × Operand)} (ho:o.op=.buildSlice ty n ps) (h:Sim G E fr hp a.tmps w β N)
 (hr:run (cond (freshI ps.toList && ltI n ps.toList) (tyE T ty fun t e=>(match t with
 | .list u=>cond (Nat.ble (n * u.size) 16777216) (elemsA u n 0 ps.toList fun xs=>(match o.dst with | some d=>Ev.newRow d e u xs fun v=>setD o.dst v (.pure ()) | none=>.fail)) .fail
 | _=>.fail)) .fail:U P G) fr hp=some r):Does P o a w (After G E a r):=by
 obtain ⟨hc,hr⟩:=cond_fail hr
 simp only [Bool.and_eq_true] at hc
 obtain ⟨hf,hlt⟩:=hc
 obtain ⟨t',e,ht,he,hr⟩:=tyE_elim hT hr
 cases t' with
 | list t =>
  obtain ⟨hu,hte⟩:=he t rfl
  obtain ⟨_,_,_,hpos⟩:=tyChk_list ht
  obtain ⟨ie,ze,hie⟩:=tyChk_info hte
  have hzl:=rel_len _ _ _ (zrel w N t _ hie.zok)
  have hzs:ze.cells.size=t.size:=by simpa using hzl
  obtain ⟨hsz,hr⟩:=cond_fail hr
  have hsz:n * t.size ≤ 16777216:=Nat.le_of_ble_eq_true hsz
  obtain ⟨hp',N',xs,g,hxl,hx,hr⟩:=elemsA_elim (z:=fun _=>ze.cells.toList) (fun _=>hie.zok) n 0 ps.toList _ hp N h hr
  have hx2:=elems_css (css:=List.replicate n ze.cells.toList) (by simpa using hxl) (fun _=>ze.cells.toList) (fun j hj=>by simp) hx
  have hcl:∀ c ∈ List.replicate n ze.cells.toList,c.length=t.size:=fun c hc=>by rw [List.eq_of_mem_replicate hc];exact hzl
  have hpa:=parts_ok a ps.toList (List.replicate n ze.cells.toList) hf (by simpa using hlt) (fun j hj=>by rw [rel_len t _ _ (hx2 j hj),hcl _ (List.getElem_mem hj)])
  have hfill:=fill_run (fun i=>some (i * t.size,t.size)) (partsV a ps.toList) (List.replicate n ze.cells.toList) (uni_place _ hcl) hpa
  rw [fillL_eq a _ _ hf] at hfill
  have hpv:(ps.map fun (i,x)=>(i,a.eval x)).toList=partsV a ps.toList:=by simp [partsV]
  cases hd:o.dst with
  | none=>rw [hd] at hr;exact fail_elim hr
  | some d =>
   simp only [hd] at hr
   obtain ⟨v,hin,hv,hr⟩:=newRow_elim hr
   have hzero:(Array.range (n * t.size)).map (ze.cells[· % ze.cells.size]!)=(List.replicate n ze.cells.toList).flatten.toArray:=by
    apply Array.ext';rw [zeros_flat ze.cells hzs hpos]
   have hrun:(Instr.buildSlice ty n (ps.map fun (i,x)=>(i,a.eval x))).run P w=.ok (.slice (some ⟨w.heap.size,0,none⟩) n n) (w.alloc (.cells ((List.replicate n ze.cells.toList).mapIdx fun j c=>partC a ps.toList j c).flatten.toArray e)):=by
    by_cases h0:n=0
    ·subst h0
     have hps:ps.toList=[]:=by
      cases hq:ps.toList with
      | nil=>rfl
      | cons p l=>rw [hq] at hlt;obtain ⟨k,x⟩:=p;simp [ltI,Nat.blt] at hlt
     have hps2:ps=#[]:=by cases ps;simpa using hps
     subst hps2
     simp [Instr.buildSlice,run_underlying hu,sizeOf,typeInfo,hie.info,Go.newRow,Instr.fill,Array.range_zero']
    ·refine run_buildSlice w ty e n _ _ ie ze hu hie.info hie.zero ?_ ?_ ?_
     ·rw [hie.size];omega
     ·rw [hie.size];exact Nat.mul_ne_zero h0 (by omega)
     ·rw [hie.size,hpv,hzero];exact hfill
   have hnl:n ≤ n * t.size:=Nat.le_mul_of_pos_right n hpos
   have hcss:∀ j (h1:j < xs.length) (h2:j < ((List.replicate n ze.cells.toList).mapIdx fun j c=>partC a ps.toList j c).length),rel w N' t xs[j] ((List.replicate n ze.cells.toList).mapIdx fun j c=>partC a ps.toList j c)[j]:=by
    intro j h1 h2
    have h3:j < (List.replicate n ze.cells.toList).length:=by simpa using h2
    simpa using hx2 j h3
   have hgr:=Grow.alloc w (.cells ((List.replicate n ze.cells.toList).mapIdx fun j c=>partC a ps.toList j c).flatten.toArray e)
   have hEx:=hgr.ext g.sim.ok
   have hrow:=RowAt.of_block (N:=N') (w':=w.alloc (.cells ((List.replicate n ze.cells.toList).mapIdx fun j c=>partC a ps.toList j c).flatten.toArray e)) (e:=e) (t:=t) (g:=w.heap.size) (cap:=n)
    (xs:=xs) (css:=(List.replicate n ze.cells.toList).mapIdx fun j c=>partC a ps.toList j c) (rest:=[]) (noN g.sim) (by rw [List.append_nil];exact heap_new w _) (by simp [hxl]) (fun i h1 h2=>rel_ext hEx _ _ _ (hcss i h1 h2)) (by omega) (by unfold maxLen;omega) (by
     rw [List.append_nil,flatten_len _ (n:=t.size) (fun c hc=>?_)]
     ·simp
     ·obtain ⟨k,hk,rfl⟩:=List.getElem_of_mem hc
      exact rel_len t _ _ (hcss k (by simpa [hxl] using hk) hk))
   rw [hxl] at hrow
   obtain ⟨x,hs,hvr,_,_⟩:=g.sim.newRow hin hv hgr hrow (fun g' hg'=>by cases hg';exact ⟨Nat.le_refl _,by rw [size_alloc];exact Nat.lt_succ_self _⟩)
   refine does_val ?_ hs hvr (by rw [hd];exact hr)
   have hex:execOp a.eval o=(do let v ← Instr.buildSlice ty n (ps.map fun (i,x)=>(i,a.eval x));pure (.value v):Sem Next):=by unfold execOp;rw [ho]
   rw [hex]
   simp only [Sem.run_bind,hrun,Result.andThen_ok,Sem.run_pure]
 | _=>exact fail_elim hr
end Ev
end Go.Proofs.YtlfcdmibknmjeaaGreatDoor
namespace Go.Proofs.YtlfcdmibknmjeaaGreatDoor
namespace Ev
open Go Go.RowKit
variable {P:Program} {G:List GV} {E:Entry} {fr hp:List SV} {w:World} {β:Nat→BI} {N:Reg} {r:Unit × List SV × List SV} {a:Act} {o:Oper} {T:Tab}
theorem ex_builtin {b:Builtin} {args:Array Operand} {tys:Array TypeId} (ho:o.op=.call ⟨.builtin b,args,tys⟩):execOp a.eval o=builtin b tys o.type (args.map fun | .const _=>true | _=>false) (args.map a.eval):=by
 unfold execOp
 rw [ho]
 rfl
theorem op_len (hT:tabChk P T=true) {x:Operand} {ty:TypeId} (ho:o.op=.call ⟨.builtin .len,#[x],#[ty]⟩) (h:Sim G E fr hp a.tmps w β N)
 (hr:run (rdO x fun x=>tyA T ty fun t=>lenA T ty t x fun n=>setD o.dst (.imm (.int .i64) n) (.pure ()):U P G) fr hp=some r):Does P o a w (After G E a r):=by
 obtain ⟨v,hv,hr⟩:=rdO_elim h hr
 obtain ⟨t,ht,hr⟩:=tyA_elim hT hr
 have fin:∀ {n:Int},(Builtin.len_ #[ty] o.type #[a.eval x]).run P w=.ok (goInt n) w→run (setD o.dst (.imm (.int .i64) n) (.pure ()):U P G) fr hp=some r→Does P o a w (After G E a r):=by
  intro n hrun hr
  refine does_val (u:=.int .i64 n) ?_ h (ivint _ _) hr
  rw [ex_builtin ho]
  simp only [builtin,List.map_toArray,List.map_cons,List.map_nil,Sem.run_bind,hrun,Result.andThen_ok,Sem.run_pure]
  rfl
 cases t with
 | str =>
  cases v with
  | imm t' s=>cases t' with
   | str=>exact fin (by rw [vstr hv];simp [Builtin.len_,run_underlying (tyChk_str ht)]) hr
   | _=>exact fail_elim hr
  | _=>exact fail_elim hr
 | arr n u =>
  obtain ⟨e,hu,_⟩:=tyChk_arr ht
  exact fin (by simp [Builtin.len_,run_underlying hu]) hr
 | list u =>
  obtain ⟨e,hu,_⟩:=tyChk_list ht
  cases v with
  | imm t' xs=>cases t' with
   | list t2 =>
    obtain ⟨A,cap,e1,_⟩:=imm1 (t:=.list t2) rfl hv
    have e1:a.eval x=.slice A xs.length cap:=by simpa using e1
    exact fin (by rw [e1];simp [Builtin.len_,run_underlying hu]) hr
   | _=>exact fail_elim hr
  | nilS =>
   have hv:a.eval x=.slice none 0 0:=hv
   exact fin (by rw [hv];simp [Builtin.len_,run_underlying hu]) hr
  | own id ver =>
   obtain ⟨h1,h2,h2',h3⟩:=(hv:nth hp id ≠ .none∧ver ≤ bver (nth hp id)∧(a.eval x).oneCell'=true∧∀ sh e t xs,nth hp id=.row ver sh e t xs→a.eval x=(β id).val)
   simp only [lenA,run,if_true] at hr
   split at hr
   ·rename_i v' sh e' t' xs hrow
    obtain ⟨hver,hr2⟩:=cond_fail hr
    have hver:v'=ver:=Nat.eq_of_beq_eq_true hver
    subst hver
    have e1:=h3 _ _ _ _ hrow
    have hbr:=h.box id
    rw [hrow] at hbr
    obtain ⟨A,cap,e2,_⟩:=hbr.1.cells
    exact fin (by rw [e1,e2];simp [Builtin.len_,run_underlying hu]) hr2
   ·exact fail_elim hr
  | sub id ver i n t0 =>
   obtain ⟨h1,h2,h2',h3⟩:=(hv:nth hp id ≠ .none∧ver ≤ bver (nth hp id)∧(a.eval x).oneCell'=true∧∀ sh e t' xs,nth hp id=.row ver sh e t' xs→∃ A m cap,(β id).val=.slice A m cap∧m ≤ cap∧i + n ≤ m∧a.eval x=.slice (if cap=i then A else A.map (·.add (i * t0.size))) n (cap - i))
   simp only [lenA,run,if_true] at hr
   split at hr
   ·rename_i v' sh e' t' xs hrow
    obtain ⟨hver,hr2⟩:=cond_fail hr
    have hver:v'=ver:=Nat.eq_of_beq_eq_true hver
    subst hver
    obtain ⟨A,m,cap,_,_,_,e1⟩:=h3 _ _ _ _ hrow
    exact fin (by rw [e1];simp [Builtin.len_,run_underlying hu]) hr2
   ·exact fail_elim hr
  | _=>exact fail_elim hr
 | opq =>
  cases v with
  | mph id =>
   obtain ⟨q,hq,hr⟩:=tyM_elim hT hr
   obtain ⟨h1,h2,h3⟩:=(hv:nth hp id ≠ .none∧(∃ r,a.eval x=.map (some r))∧∀ kt vt l,nth hp id=.mp kt vt l→a.eval x=.map (some (β id).blk))
   simp only [run,if_true] at hr
   split at hr
   ·rename_i kt vt l hm
    have e1:=h3 _ _ _ hm
    have hbr:=h.box id
    rw [hm] at hbr
    obtain ⟨⟨es,c,k1,k2,_⟩,_⟩:=hbr
    exact fin (by rw [e1];simp [Builtin.len_,run_underlying hq.und,run_getObj_map _ _ _ _ k1,k2]) hr
   ·exact fail_elim hr
  | _=>exact fail_elim hr
 | _=>exact fail_elim hr
theorem op_min {x y:Operand} {tys:Array TypeId} (ho:o.op=.call ⟨.builtin .min,#[x,y],tys⟩) (h:Sim G E fr hp a.tmps w β N)
 (hr:run (rdO x fun x=>rdO y fun y=>(match x with
  | .imm (.int j) a=>(match y with | .imm (.int j') b=>if j=j' then setD o.dst (.imm (.int j) (mnI a b)) (.pure ()) else .fail | _=>.fail)
  | .imm .str a=>(match y with | .imm .str b=>setD o.dst (.imm .str (mnS a b)) (.pure ()) | _=>.fail)
  | _=>.fail):U P G) fr hp=some r):Does P o a w (After G E a r):=by
 obtain ⟨vx,hx,hr⟩:=rdO_elim h hr
 obtain ⟨vy,hy,hr⟩:=rdO_elim h hr
 have fin:∀ {sv:SV} {u:Value},(Builtin.min2 (a.eval x) (a.eval y)).run P w=.ok u w→VR β hp w N sv u→run (setD o.dst sv (.pure ()):U P G) fr hp=some r→Does P o a w (After G E a r):=by
  intro sv u hrun hu hr
  refine does_val ?_ h hu hr
  rw [ex_builtin ho]
  simp only [builtin,Builtin.min_,List.map_toArray,List.map_cons,List.map_nil,List.foldlM_cons,List.foldlM_nil,Sem.run_bind,hrun,Result.andThen_ok,Sem.run_pure]
 cases vx with
 | imm t p=>cases t with
  | int j=>cases vy with
   | imm t' q=>cases t' with
    | int j' =>
     simp only at hr
     split at hr
     ·exact fin (by rw [vint hx,vint hy];simp [Builtin.min2,mnI]) (ivint _ _) hr
     ·exact fail_elim hr
    | _=>exact fail_elim hr
   | _=>exact fail_elim hr
  | str=>cases vy with
   | imm t' q=>cases t' with
    | str=>exact fin (by rw [vstr hx,vstr hy];simp [Builtin.min2,Op.stringOp,asBool,mnS]) (ivstr _) hr
    | _=>exact fail_elim hr
   | _=>exact fail_elim hr
  | _=>exact fail_elim hr
 | _=>exact fail_elim hr
theorem op_max {x y:Operand} {tys:Array TypeId} (ho:o.op=.call ⟨.builtin .max,#[x,y],tys⟩) (h:Sim G E fr hp a.tmps w β N)
 (hr:run (rdO x fun x=>rdO y fun y=>(match x with
  | .imm (.int j) a=>(match y with | .imm (.int j') b=>if j=j' then setD o.dst (.imm (.int j) (mxI a b)) (.pure ()) else .fail | _=>.fail)
  | .imm .str a=>(match y with | .imm .str b=>setD o.dst (.imm .str (mxS a b)) (.pure ()) | _=>.fail)
  | _=>.fail):U P G) fr hp=some r):Does P o a w (After G E a r):=by
 obtain ⟨vx,hx,hr⟩:=rdO_elim h hr
 obtain ⟨vy,hy,hr⟩:=rdO_elim h hr
 have fin:∀ {sv:SV} {u:Value},(Builtin.max2 (a.eval x) (a.eval y)).run P w=.ok u w→VR β hp w N sv u→run (setD o.dst sv (.pure ()):U P G) fr hp=some r→Does P o a w (After G E a r):=by
  intro sv u hrun hu hr
  refine does_val ?_ h hu hr
  rw [ex_builtin ho]
  simp only [builtin,Builtin.max_,List.map_toArray,List.map_cons,List.map_nil,List.foldlM_cons,List.foldlM_nil,Sem.run_bind,hrun,Result.andThen_ok,Sem.run_pure]
 cases vx with
 | imm t p=>cases t with
  | int j=>cases vy with
   | imm t' q=>cases t' with
    | int j' =>
     simp only at hr
     split at hr
     ·exact fin (by rw [vint hx,vint hy];simp [Builtin.max2,mxI]) (ivint _ _) hr
     ·exact fail_elim hr
    | _=>exact fail_elim hr
   | _=>exact fail_elim hr
  | str=>cases vy with
   | imm t' q=>cases t' with
    | str=>exact fin (by rw [vstr hx,vstr hy];simp [Builtin.max2,Op.stringOp,asBool,mxS]) (ivstr _) hr
    | _=>exact fail_elim hr
   | _=>exact fail_elim hr
  | _=>exact fail_elim hr
 | _=>exact fail_elim hr
theorem Reads.load {xs:List Int} {ad:Addr} {cap n:Nat} (h:Reads w N (.int .u8) xs (.slice (some ad) n cap)):(loadCells ad n).run P w=.ok (xs.map (Value.int .u8)).toArray w:=by
 obtain ⟨A,c,e,_,h⟩:=h
 cases e
 have:=run_loadCells_list (P:=P) w ad (xs.map (Value.int .u8)) (fun j v hj=>by
  have hjl:j < xs.length:=by
   have:=(List.getElem?_eq_some_iff.1 hj).1
   simpa using this
  obtain ⟨ad',c,e,h1,h2⟩:=h j hjl
  cases e
  cases h1
  have h2:=h2 0 (by simp)
  rw [add_add] at h2
  simp only [Ty.size,Nat.mul_one,Nat.add_zero,List.getElem_cons_zero] at h2
  rw [h2]
  simp only [List.getElem?_map,List.getElem?_eq_getElem hjl,Option.map_some] at hj
  exact hj)
 simpa using this
theorem op_convert (hT:tabChk P T=true) {s d:TypeId} {x:Operand} (ho:o.op=.convert s d x) (h:Sim G E fr hp a.tmps w β N)
 (hr:run (rdO x fun x=>tyA T s fun s=>tyA T d fun t=>(match x with
 | .imm (.int _) n=>(match s with | .int _=>(match t with | .int j=>setD o.dst (.imm (.int j) (j.wrap n)) (.pure ()) | _=>.fail) | _=>.fail)
 | .imm .str b=>eqA s .str (eqA t .str (setD o.dst (.imm .str b) (.pure ())))
 | x=>eqA s (.list (.int .u8)) (eqA t .str (rowA (.int .u8) x fun xs=>setD o.dst (.imm .str (bytesA xs)) (.pure ())))):U P G) fr hp=some r):Does P o a w (After G E a r):=by
 obtain ⟨v,hv,hr⟩:=rdO_elim h hr
 obtain ⟨ts,hs,hr⟩:=tyA_elim hT hr
 obtain ⟨td,hd,hr⟩:=tyA_elim hT hr
 have fin:∀ {sv:SV} {u:Value},(convert s d (a.eval x)).run P w=.ok u w→VR β hp w N sv u→run (setD o.dst sv (.pure ()):U P G) fr hp=some r→Does P o a w (After G E a r):=by
  intro sv u hrun hu hr
  exact does_val (by unfold execOp;rw [ho];simp [hrun]) h hu hr
 have row:run (eqA ts (.list (.int .u8)) (eqA td .str (rowA (.int .u8) v fun xs=>setD o.dst (.imm .str (bytesA xs)) (.pure ()))):U P G) fr hp=some r→Does P o a w (After G E a r):=by
  intro hr
  obtain ⟨e,hr1⟩:=eqA_elim hr
  subst e
  obtain ⟨e,hr2⟩:=eqA_elim hr1
  subst e
  obtain ⟨xs,hx,hr3⟩:=rowA_elim h hr2 hv
  obtain ⟨e,hu,hte,_⟩:=tyChk_list hs
  refine fin ?_ (ivstr _) hr3
  have hx0:=hx
  obtain ⟨A,cap,e1,_,hel⟩:=hx0
  rw [e1,run_convert_bytes_string w s d e A _ _ hu (tyChk_int hte) (tyChk_str hd)]
  cases A with
  | none =>
   have:xs=[]:=by
    cases xs with
    | nil=>rfl
    | cons y ys=>obtain ⟨_,_,e,_⟩:=hel 0 (by simp);cases e
   subst this
   simp [Conv.bytesToString]
   rfl
  | some ad =>
   rw [e1] at hx
   rw [run_bytesToString w ad _ cap xs (Reads.load hx),foldl_push_bytes]
   simp [bytesA,ByteArray.empty,ByteArray.emptyWithCapacity]
   rfl
 cases v with
 | imm t p=>cases t with
  | int k=>cases ts with
   | int k1=>cases td with
    | int j=>exact fin (by rw [vint hv];simp [convert,run_underlying (tyChk_int hs),run_underlying (tyChk_int hd),Conv.intToInt]) (ivint _ _) hr
    | _=>exact fail_elim hr
   | _=>exact fail_elim hr
  | str =>
   obtain ⟨e,hr1⟩:=eqA_elim hr
   subst e
   obtain ⟨e,hr2⟩:=eqA_elim hr1
   subst e
   exact fin (by rw [vstr hv];simp [convert,run_underlying (tyChk_str hs),run_underlying (tyChk_str hd)]) (ivstr _) hr2
  | _=>exact row hr
 | _=>exact row hr
end Ev
end Go.Proofs.YtlfcdmibknmjeaaGreatDoor
namespace Go.Proofs.YtlfcdmibknmjeaaGreatDoor
namespace Ev
open Go Go.RowKit
variable {P:Program} {G:List GV} {E:Entry} {fr hp:List SV} {w:World} {β:Nat→BI} {N:Reg} {r:Unit × List SV × List SV} {a:Act} {o:Oper} {T:Tab}
def OptV:Option Value→Option Int→Prop
 | none,none=>True
 | some v,some i=>∃ k,v=.int k i
 | _,_=>False
theorem optIntA_elim {x:Option Operand} {k:Option Int→U P G} (h:Sim G E fr hp a.tmps w β N) (hr:run (optIntA x k) fr hp=some r):∃ i,OptV (x.map a.eval) i∧run (k i) fr hp=some r:=by
 cases x with
 | none=>exact ⟨none,trivial,hr⟩
 | some x =>
  obtain ⟨v,hv,hr⟩:=rdO_elim h (show run (rdO x fun v=>match v with | .imm (.int _) i=>k (some i) | _=>.fail) fr hp=some r from hr)
  cases v with
  | imm t i=>cases t with
   | int j=>exact ⟨some i,⟨j,vint hv⟩,hr⟩
   | _=>exact fail_elim hr
  | _=>exact fail_elim hr
theorem sliceAt_elim {lo hi:Option Int} {n:Int} {k:Int→Int→U P G} (hn:0 ≤ n) (hr:run (Ev.sliceAt lo hi n k) fr hp=some r):0 ≤ lo.getD 0∧lo.getD 0 ≤ hi.getD n∧hi.getD n ≤ n∧run (k (lo.getD 0) (hi.getD n)) fr hp=some r:=by
 cases lo with
 | none=>cases hi with
  | none=>exact ⟨Int.le_refl _,hn,Int.le_refl _,hr⟩
  | some b =>
   obtain ⟨hb,hr⟩:=br_ok hr
   have hb:0 ≤ b∧b ≤ n:=by simpa using hb
   exact ⟨Int.le_refl _,hb.1,hb.2,hr⟩
 | some l=>cases hi with
  | none =>
   obtain ⟨hb,hr⟩:=br_ok hr
   have hb:0 ≤ l∧l ≤ n:=by simpa using hb
   exact ⟨hb.1,hb.2,Int.le_refl _,hr⟩
  | some b =>
   obtain ⟨hb,hr⟩:=br_ok hr
   have hb:0 ≤ l∧l ≤ b∧b ≤ n:=by simpa using hb
   exact ⟨hb.1,hb.2.1,hb.2.2,hr⟩
theorem run_bounds {s:Bool} {len cap:Nat} {vl vh:Option Value} {lo hi:Option Int} (h1:OptV vl lo) (h2:OptV vh hi) (hc:len ≤ cap) (b1:0 ≤ lo.getD 0) (b2:lo.getD 0 ≤ hi.getD len) (b3:hi.getD len ≤ len) :
 (Instr.sliceBounds s len cap vl vh none).run P w=.ok ((lo.getD 0).toNat,(hi.getD len).toNat,cap) w:=by
 cases lo with
 | none=>cases vl with
  | some v=>exact h1.elim
  | none=>cases hi with
   | none=>cases vh with
    | some v=>exact h2.elim
    | none=>simp [Instr.sliceBounds]
   | some b=>cases vh with
    | none=>exact h2.elim
    | some v =>
     obtain ⟨k,rfl⟩:=h2
     simp only [Option.getD_some,Option.getD_none] at b1 b2 b3
     have e1:0 ≤ b∧b ≤ (cap:Int):=by omega
     cases s <;> simp [Instr.sliceBounds,Instr.sliceBound,asIntOf,e1]
 | some l=>cases vl with
  | none=>exact h1.elim
  | some v =>
   obtain ⟨k,rfl⟩:=h1
   cases hi with
   | none=>cases vh with
    | some v=>exact h2.elim
    | none =>
     simp only [Option.getD_some,Option.getD_none] at b1 b2 b3
     have e1:0 ≤ l∧l ≤ (len:Int):=by omega
     simp [Instr.sliceBounds,Instr.sliceBound,asIntOf,e1]
   | some b=>cases vh with
    | none=>exact h2.elim
    | some v =>
     obtain ⟨k',rfl⟩:=h2
     simp only [Option.getD_some] at b1 b2 b3
     have e1:0 ≤ b∧b ≤ (cap:Int):=by omega
     have e2:0 ≤ l∧l ≤ (b.toNat:Int):=by omega
     cases s <;> simp [Instr.sliceBounds,Instr.sliceBound,asIntOf,e1,e2] <;> intro h3 <;> omega
theorem cutS_eq (lo hi:Option Int) (s:ByteArray):cutS lo hi s=s.extract (lo.getD 0).toNat (hi.getD (s.size:Int)).toNat:=by
 cases lo <;> cases hi <;> simp [cutS]
theorem cutL_eq {α:Type} (lo hi:Option Int) (xs:List α):cutL lo hi xs=(xs.take (hi.getD (xs.length:Int)).toNat).drop (lo.getD 0).toNat:=by
 cases lo <;> cases hi <;> simp [cutL]
theorem rel_arr_list {n:Nat} {t:Ty} {xs:List t.denote} {ad:Addr} {cs:List Value} (h1:rel w N (.arr n t) xs cs) (h2:At w N ad cs):xs.length=n∧rel w N (.list t) xs [.slice (some ad) n n]:=by
 have hn:xs.length=n:=h1.1
 refine ⟨hn,some ad,n,by rw [hn],by omega,fun i hi=>⟨ad,sub cs (i * t.size) t.size,rfl,?_,h2.sub _ _⟩⟩
 have:=rel_arr_at (i:=(i:Int)) h1 (by omega)
 rw [show rdL t.zero xs (i:Int)=xs[i] by simp [rdL,List.getD_eq_getElem?_getD,List.getElem?_eq_getElem hi]] at this
 exact this
theorem op_slice (hT:tabChk P T=true) {ty:TypeId} {x:Operand} {lo hi:Option Operand} (ho:o.op=.slice ty x lo hi none) (h:Sim G E fr hp a.tmps w β N)
 (hr:run (rdO x fun x=>optIntA lo fun lo=>optIntA hi fun hi=>tyA T ty fun ty=>(match ty with
 | .str=>(match x with | .imm .str s=>Ev.sliceAt lo hi (s.size:Int) fun _ _=>setD o.dst (.imm .str (cutS lo hi s)) (.pure ()) | _=>.fail)
 | .list t=>sliceL t x lo hi fun v=>setD o.dst v (.pure ())
 | .arr n t=>(match x with
  | .iptr u xs=>eqA u (.arr n t) (match u,xs with
   | .arr m t,xs=>Ev.sliceAt lo hi (m:Int) fun _ _=>setD o.dst (.imm (.list t) (cutL lo hi xs)) (.pure ())
   | _,_=>.fail)
  | _=>.fail)
 | _=>.fail):U P G) fr hp=some r):Does P o a w (After G E a r):=by
 obtain ⟨v,hv,hr⟩:=rdO_elim h hr
 obtain ⟨l,hl,hr⟩:=optIntA_elim h hr
 obtain ⟨b,hb,hr⟩:=optIntA_elim h hr
 obtain ⟨t',ht,hr⟩:=tyA_elim hT hr
 cases t' with
 | str=>cases v with
  | imm t s=>cases t with
   | str =>
    obtain ⟨b1,b2,b3,hr1⟩:=sliceAt_elim (by omega) hr
    refine does_val (u:=.string (cutS l b s)) ?_ h (ivstr _) hr1
    unfold execOp
    rw [ho]
    have hbd:=run_bounds (P:=P) (w:=w) (s:=false) hl hb (Nat.le_refl _) b1 b2 b3
    simp [Instr.sliceAt,Instr.slice,run_underlying (tyChk_str ht),vstr hv,hbd,cutS_eq]
   | _=>exact fail_elim hr
  | _=>exact fail_elim hr
 | list t =>
  obtain ⟨e1,hu,hte,_⟩:=tyChk_list ht
  obtain ⟨i,z,hi⟩:=tyChk_info hte
  have byImm:run (immA (.list t) v fun xs=>Ev.sliceAt l b (xs.length:Int) fun _ _=>setD o.dst (.imm (.list t) (cutL l b xs)) (.pure ()):U P G) fr hp=some r→Does P o a w (After G E a r):=by
   intro hr
   obtain ⟨hp',N',xs,g,⟨cs,hx,e⟩,hr1⟩:=immA_elim h hr hv
   obtain ⟨b1,b2,b3,hr2⟩:=sliceAt_elim (by omega) hr1
   obtain ⟨A,cap,ecs,hcap,hel⟩:=id hx
   rw [ecs] at e hx
   have e:a.eval x=.slice A xs.length cap:=by rw [e];rfl
   have hcut:=rel_cut (l:=(l.getD 0).toNat) (h:=(b.getD (xs.length:Int)).toNat) hx (by omega) (by omega)
   rw [← cutL_eq] at hcut
   refine does_val (v:=.imm (.list t) (cutL l b xs)) (u:=.slice (if cap=(l.getD 0).toNat then A else A.map (·.add ((l.getD 0).toNat * t.size))) ((b.getD (xs.length:Int)).toNat - (l.getD 0).toNat) (cap - (l.getD 0).toNat)) ?_ g.sim (⟨_,hcut.2.2,rfl⟩:IsImm w N' (.list t) (cutL l b xs) _) hr2
   unfold execOp
   rw [ho]
   have hbd:=run_bounds (P:=P) (w:=w) (s:=true) hl hb hcap b1 b2 b3
   simp [Instr.sliceAt,Instr.slice,run_underlying hu,e,hbd,sizeOf,typeInfo,hi.info,hi.size]
  have hr:run (sliceL t v l b fun v=>setD o.dst v (.pure ()):U P G) fr hp=some r:=hr
  cases v with
  | own id ver =>
   obtain ⟨h1,h2,hone,h3⟩:=(hv:nth hp id ≠ .none∧ver ≤ bver (nth hp id)∧(a.eval x).oneCell'=true∧∀ sh e t xs,nth hp id=.row ver sh e t xs→a.eval x=(β id).val)
   simp only [sliceL,run,if_true] at hr
   split at hr
   ·rename_i v' sh e' t' xs hrow
    obtain ⟨hver,hr2⟩:=cond_fail hr
    have hver:v'=ver:=Nat.eq_of_beq_eq_true hver
    subst hver
    cases sh with
    | true=>exact byImm hr2
    | false =>
     have hr2:run (if t'=t then Ev.sliceAt l b (xs.length:Int) fun l h=>setD o.dst (.sub id v' l.toNat (h - l).toNat t) (.pure ()) else .fail:U P G) fr hp=some r:=hr2
     split at hr2
     ·rename_i et
      subst et
      obtain ⟨b1,b2,b3,hr3⟩:=sliceAt_elim (by omega) hr2
      have hb':=h.box id
      rw [hrow] at hb'
      obtain ⟨A,cap,k1,k2,_⟩:=hb'.1.cells
      have e:=h3 _ _ _ _ hrow
      rw [k1] at e
      have en:(b.getD (xs.length:Int) - l.getD 0).toNat=(b.getD (xs.length:Int)).toNat - (l.getD 0).toNat:=by omega
      refine does_val (u:=.slice (if cap=(l.getD 0).toNat then A else A.map (·.add ((l.getD 0).toNat * t'.size))) ((b.getD (xs.length:Int)).toNat - (l.getD 0).toNat) (cap - (l.getD 0).toNat)) ?_ h ?_ hr3
      ·unfold execOp
       rw [ho]
       have hbd:=run_bounds (P:=P) (w:=w) (s:=true) hl hb k2 b1 b2 b3
       simp [Instr.sliceAt,Instr.slice,run_underlying hu,e,hbd,sizeOf,typeInfo,hi.info,hi.size]
      ·rw [en]
       exact (⟨h1,h2,rfl,fun sh e t xs' hrow'=>by
        rw [hrow] at hrow'
        cases hrow'
        exact ⟨A,xs.length,cap,k1,k2,by omega,rfl⟩⟩:VR β hp w N (.sub id v' (l.getD 0).toNat ((b.getD (xs.length:Int)).toNat - (l.getD 0).toNat) t') _)
     ·exact fail_elim hr2
   ·exact fail_elim hr
  | _=>exact byImm hr
 | arr n t=>cases v with
  | iptr u xs =>
   obtain ⟨e,hr1⟩:=eqA_elim hr
   subst e
   obtain ⟨ad,cs,e,h1,h2⟩:=(hv:∃ ad cs,a.eval x=.pointer (some ad)∧rel w N (.arr n t) xs cs∧At w N ad cs)
   obtain ⟨b1,b2,b3,hr2⟩:=sliceAt_elim (by omega) hr1
   obtain ⟨e1,hu,hte,_⟩:=tyChk_arr ht
   obtain ⟨hn,hx⟩:=rel_arr_list h1 h2
   have hcut:=rel_cut (l:=(l.getD 0).toNat) (h:=(b.getD (n:Int)).toNat) hx (by omega) (by omega)
   obtain ⟨i,z,hi⟩:=tyChk_info hte
   have hcl:cutL l b xs=(xs.take (b.getD (n:Int)).toNat).drop (l.getD 0).toNat:=by rw [cutL_eq,hn]
   rw [← hcl] at hcut
   refine does_val (v:=.imm (.list t) (cutL l b xs)) (u:=.slice (some (if n=(l.getD 0).toNat then ad else ad.add ((l.getD 0).toNat * t.size))) ((b.getD (n:Int)).toNat - (l.getD 0).toNat) (n - (l.getD 0).toNat)) ?_ h (⟨_,hcut.2.2,?_⟩:IsImm w N (.list t) (cutL l b xs) _) hr2
   ·unfold execOp
    rw [ho]
    have hbd:=run_bounds (P:=P) (w:=w) (s:=false) hl hb (Nat.le_refl _) b1 b2 b3
    simp [Instr.sliceAt,run_underlying hu,e,Instr.sureAddr,hbd,sizeOf,typeInfo,hi.info,hi.size]
   ·show _=Value.slice _ _ _
    split <;> rfl
  | _=>exact fail_elim hr
 | _=>exact fail_elim hr
end Ev
end Go.Proofs.YtlfcdmibknmjeaaGreatDoor
namespace Go.Proofs.YtlfcdmibknmjeaaGreatDoor
namespace Ev
open Go Go.RowKit
variable {P:Program} {G:List GV} {E:Entry} {fr hp:List SV} {w:World} {β:Nat→BI} {N:Reg} {r:Unit × List SV × List SV} {a:Act} {o:Oper} {T:Tab}
theorem run_append_none {t ty e:TypeId} {i:TypeInfo} (ht:P.underlying t=some (.slice e)) (hi:P.info? e=some i) (base A:Option Addr) (n cap c:Nat) (hc:n ≤ cap) :
 (Builtin.append_ #[t,t] ty #[.slice base n cap,.slice A 0 c]).run P w=.ok (.slice base n cap) w:=by
 cases A <;> cases base <;> simp [Builtin.append_,run_underlying ht,sizeOf,typeInfo,hi,Builtin.lenOf,hc,Builtin.firstCells,loadCells,loadCellsFrom,storeCells]
theorem RowAt.anySh {w:World} {e:TypeId} {t:Ty} {xs:List t.denote} {v:Value} (sh:Bool) (h:RowAt w N e t false xs v):RowAt w N e t sh xs v :=
 ⟨h.1,fun g hg o ho=>absurd (h.2 g hg o ho).1 (by simp)⟩
theorem css_len {w:World} {t:Ty} {xs:List t.denote} {css:List (List Value)} (hl:css.length=xs.length) (hc:∀ i (h:i < xs.length) (h':i < css.length),rel w N t xs[i] css[i]):∀ c ∈ css,c.length=t.size:=fun c hc'=>by
 obtain ⟨k,hk,rfl⟩:=List.getElem_of_mem hc'
 exact rel_len t _ _ (hc k (by omega) hk)
theorem css_app {w w':World} {N':Reg} {t:Ty} {xs ys:List t.denote} {css cys:List (List Value)} (hE:Ext w N w' N') (hl:css.length=xs.length) (hc:∀ i (h:i < xs.length) (h':i < css.length),rel w N t xs[i] css[i])
 (hl2:cys.length=ys.length) (hc2:∀ i (h:i < ys.length) (h':i < cys.length),rel w N t ys[i] cys[i]):∀ i (h:i < (xs ++ ys).length) (h':i < (css ++ cys).length),rel w' N' t (xs ++ ys)[i] (css ++ cys)[i]:=by
 intro i h h'
 simp only [List.getElem_append]
 by_cases hi:i < xs.length
 ·rw [dif_pos hi,dif_pos (by omega)]
  exact rel_ext hE _ _ _ (hc i hi (by omega))
 ·rw [dif_neg hi,dif_neg (by omega)]
  simp only [hl]
  exact rel_ext hE _ _ _ (hc2 _ (by simp at h;omega) (by simp at h;omega))
theorem Left.refl (w:World) (v:Value):Left w w v:=⟨rfl,rfl,rfl,Nat.le_refl _,fun _ _ _=>rfl⟩
theorem Left.of_grow {w w':World} (h:Grow w w') (v:Value):Left w w' v:=⟨h.os,h.tape,h.output,h.size,fun k hk _=>h.block k hk⟩
theorem run_append (hN:∀ b o,N b o→b < w.heap.size) {ty dt e:TypeId} {t:Ty} {i:TypeInfo} {z:Value} (hu:P.underlying ty=some (.slice e)) (hi:InfoOk P t e i z) {sh:Bool} {xs ys:List t.denote} {v u:Value}
 (hrow:RowAt w N e t sh xs v) (hy:Reads w N t ys u) (hlen:xs.length + ys.length ≤ roomN) :
 ∃ v' w',(Builtin.append_ #[ty,ty] dt #[v,u]).run P w=.ok v' w'∧RowAt w' N e t sh (xs ++ ys) v'∧Ext w N w' N∧Left w w' v∧∀ g,v'.ownBlock=some g→(v.ownBlock=some g ∨ w.heap.size ≤ g)∧g < w'.heap.size:=by
 have hby:=hi.bytes
 unfold roomN at hlen
 have hbytes:(xs.length + ys.length) * i.bytes ≤ 140737488355328:=Nat.le_trans (Nat.mul_le_mul hlen hby) (by decide)
 by_cases hnil:ys=[]
 ·subst hnil
  obtain ⟨A,cap,rfl,_⟩:=hy
  obtain ⟨⟨css,h1,h2,h3⟩,h4⟩:=id hrow
  rcases h3.2 with ⟨rfl,hn⟩ | ⟨g,cap',cur,rfl,e1,e2,e3,e4,e5,e6⟩
  ·exact ⟨_,w,run_append_none hu hi.info none A 0 0 cap (Nat.le_refl _),by simpa using hrow,Ext.refl w N,Left.refl w _,fun g hg=>by cases hg⟩
  ·refine ⟨_,w,run_append_none hu hi.info _ A _ cap' cap e3,by simpa using hrow,Ext.refl w N,Left.refl w _,fun g' hg=>?_⟩
   cases hg
   exact ⟨.inl rfl,(Array.getElem?_eq_some_iff.1 e2).1⟩
 obtain ⟨ad,capy,cys,rfl,hyl,hyr,hyc⟩:=hy.cells hnil
 have hmp:0 < ys.length:=by cases ys with | nil=>exact (hnil rfl).elim | cons y ys=>simp
 have hylen:=css_len hyl hyr
 have hnl:cys.flatten.length=ys.length * t.size:=by rw [flatten_len cys hylen,hyl]
 have hnl':cys.flatten.length=ys.length * i.size:=by rw [hi.size];exact hnl
 have hzl:=rel_len _ _ _ (zrel w N t _ hi.zok)
 have hzs:z.cells.size=t.size:=by simpa using hzl
 obtain ⟨⟨css,h1,h2,h3⟩,h4⟩:=id hrow
 have hxlen:=css_len h1 h2
 have hxl:css.flatten.length=xs.length * t.size:=by rw [flatten_len css hxlen,h1]
 have made:∀ old,let w':=w.drew.alloc (.cells (css.flatten.toArray ++ cys.flatten.toArray ++ Builtin.zeroCells z.cells (grownCap w (xs.length + ys.length) old e - (xs.length + ys.length))) e)
  RowAt w' N e t sh (xs ++ ys) (.slice (some ⟨w.heap.size,0,none⟩) (xs.length + ys.length) (grownCap w (xs.length + ys.length) old e))∧Ext w N w' N∧Left w w' v:=by
  intro old w'
  have hg:Grow w w':=Grow.drewAlloc w _
  have hE:=hg.ext hN
  refine ⟨?_,hE,Left.of_grow hg v⟩
  have hge:=grownCap_ge w (xs.length + ys.length) old e
  have hcm:=grownCap_le_maxLen w (xs.length + ys.length) old e (by unfold maxLen;omega)
  have:=RowAt.of_block (N:=N) (w':=w') (g:=w.heap.size) (cap:=grownCap w (xs.length + ys.length) old e) (e:=e) (t:=t) (xs:=xs ++ ys) (css:=css ++ cys) (rest:=(Builtin.zeroCells z.cells (grownCap w (xs.length + ys.length) old e - (xs.length + ys.length))).toList)
   (fun o ho=>Nat.lt_irrefl _ (hN _ _ ho)) (by
    have e1:((css ++ cys).flatten ++ (Builtin.zeroCells z.cells (grownCap w (xs.length + ys.length) old e - (xs.length + ys.length))).toList).toArray=css.flatten.toArray ++ cys.flatten.toArray ++ Builtin.zeroCells z.cells (grownCap w (xs.length + ys.length) old e - (xs.length + ys.length)):=by
     apply Array.ext'
     simp
    rw [e1]
    exact heap_alloc_new w.drew _) (by simp [h1,hyl]) (css_app hE h1 h2 hyl hyr) (by simpa using hge) hcm (by
    have:=size_zeroCells z.cells (grownCap w (xs.length + ys.length) old e - (xs.length + ys.length))
    rw [hzs] at this
    simp only [List.flatten_append,List.length_append,Array.length_toList,this,hxl,hnl,← Nat.add_mul]
    congr 1
    omega)
  simp only [List.length_append] at this
  exact this.anySh sh
 have hnew:∀ old,let w':=w.drew.alloc (.cells (css.flatten.toArray ++ cys.flatten.toArray ++ Builtin.zeroCells z.cells (grownCap w (xs.length + ys.length) old e - (xs.length + ys.length))) e)
  ∀ g,(Value.slice (some ⟨w.heap.size,0,none⟩) (xs.length + ys.length) (grownCap w (xs.length + ys.length) old e)).ownBlock=some g→(v.ownBlock=some g ∨ w.heap.size ≤ g)∧g < w'.heap.size:=by
  intro old w' g hg
  cases hg
  exact ⟨.inr (Nat.le_refl _),by rw [size_alloc];exact Nat.lt_succ_self _⟩
 rcases h3.2 with ⟨rfl,hn⟩ | ⟨g,cap,cur,rfl,e1,e2,e3,e4,e5,e6⟩
 ·have hx:xs=[]:=List.eq_nil_of_length_eq_zero hn
  subst hx
  have hc0:css=[]:=List.eq_nil_of_length_eq_zero (by simpa using h1)
  subst hc0
  have hr:=run_append_nil (P:=P) w ty dt e i z hu hi.info hi.zero ad ys.length capy cys.flatten hnl' hyc hmp (by simp at hlen;omega) (by simp at hbytes;omega)
  have hm:=made 0
  have hw:=hnew 0
  simp only [List.length_nil,Nat.zero_add,List.flatten_nil,Array.empty_append] at hm hw
  exact ⟨_,_,hr,hm.1,hm.2.1,hm.2.2,hw⟩
 ·by_cases hroom:xs.length + ys.length ≤ cap
  ·have hcap:(xs.length + ys.length) * t.size ≤ cap * t.size:=Nat.mul_le_mul_right _ hroom
   rw [Nat.add_mul] at hcap
   have hr:=run_append_room (P:=P) w ty dt e i hu hi.info g xs.length cap cur e2 ad ys.length capy cys.flatten hnl' hyc (fun c hc=>by
    obtain ⟨l,hl,hc⟩:=List.mem_flatten.1 hc
    obtain ⟨k,hk,rfl⟩:=List.getElem_of_mem hl
    exact rel_one _ _ _ (hyr k (by omega) hk) c hc) hroom (by rw [hi.size];omega)
   rw [hi.size] at hr
   have hE:Ext w N (w.setRow g (cur.toList.take (xs.length * t.size) ++ cys.flatten ++ cur.toList.drop (xs.length * t.size + cys.flatten.length)).toArray) N:=by
    intro b o hb
    refine ⟨hb,?_⟩
    by_cases hbg:b=g
    ·subst hbg
     have ho:=(h4 b rfl o hb).2
     rw [cell_of_row _ b o _ e (0,0) (setRow_heap w b cur _ e _ e2),cell_of_row w b o cur e (0,0) e2]
     simp only [List.getElem?_toArray]
     rw [List.append_assoc,List.getElem?_append_left (by simp;omega),List.getElem?_take_of_lt ho,Array.getElem?_toList]
    ·exact cell_other hbg
   refine ⟨_,_,hr,⟨⟨css ++ cys,by simp [h1,hyl],css_app hE h1 h2 hyl hyr,by simp [hxl,hnl,Nat.add_mul],.inr ⟨g,cap,_,by simp,e1,setRow_heap w g cur _ e _ e2,by simpa using hroom,e4,?_,?_⟩⟩,fun g' hg' o ho=>?_⟩,hE,⟨rfl,rfl,rfl,by simp,fun k _ hk=>setRow_other w g k _ (fun e=>hk (by rw [e];rfl))⟩,fun g' hg'=>?_⟩
   ·simp only [List.size_toArray,List.length_append,List.length_take,List.length_drop,Array.length_toList]
    omega
   ·rw [e6,List.flatten_append]
    simp only [List.length_append]
    have:(xs.length + ys.length) * t.size=(css.flatten ++ cys.flatten).length:=by simp [hxl,hnl,Nat.add_mul]
    rw [this]
    exact List.take_left
   ·obtain ⟨k1,k2⟩:=h4 g' hg' o ho
    refine ⟨k1,?_⟩
    rw [List.length_append,Nat.add_mul]
    omega
   ·cases hg'
    exact ⟨.inl rfl,by simpa using (Array.getElem?_eq_some_iff.1 e2).1⟩
  ·have holds:∀ j u,css.flatten[j]?=some u→w.cell? ((⟨g,0,none⟩:Addr).add j)=some u:=h3.cells (g:=g) rfl
   have hr:=run_append_grow (P:=P) w ty dt e i z hu hi.info hi.zero ⟨g,0,none⟩ xs.length cap css.flatten (by rw [hi.size];exact hxl) holds ad ys.length capy cys.flatten hnl' hyc (by omega) (by omega) (growslice_fits (by omega) hbytes)
   have hm:=made cap
   exact ⟨_,_,hr,hm.1,hm.2.1,hm.2.2,hnew cap⟩
theorem Sim.putRow (h:Sim G E fr hp a.tmps w β N) {id v:Nat} {sh:Bool} {e:TypeId} {t:Ty} {xs:List t.denote} {w':World} {u0 u:Value} (hin:id < hp.length) (hv:nth hp id=.none ∨ (kindB (nth hp id) ≤ 1∧bver (nth hp id) < v)) (hE:Ext w N w' N) (hl:Left w w' u0)
 (h0:∀ g,u0.ownBlock=some g→blkOf β hp id=some g) (hrow:RowAt w' N e t sh xs u) (hnew:∀ g,u.ownBlock=some g→(u0.ownBlock=some g ∨ w.heap.size ≤ g)∧g < w'.heap.size) :
 ∃ x,Sim G E fr (put hp id (.row v sh e t xs)) a.tmps w' (upd β id x) N∧VR (upd β id x) (put hp id (.row v sh e t xs)) w' N (.own id v) u∧Later β hp (upd β id x) (put hp id (.row v sh e t xs)):=by
 let x:BI:=⟨(u.ownBlock).getD 0,u,t⟩
 have ht:Turn β hp w N id x (.row v sh e t xs) w' N:=by
  refine ⟨hin,by simp,?_,hE,fun i hi g hg'=>⟨hl.block g (h.bnd _ _ hg').1 (fun e=>hi (h.apart _ _ _ hg' (h0 g e))),fun _ ho=>ho⟩,fun g hg'=>?_,fun k hk hk2=>hl.block k hk (fun e=>hk2 (h0 k e)),hl.os,hl.tape,hl.output,hl.size,fun c o ho=>.inl ho,fun c o ho=>Nat.lt_of_lt_of_le (h.ok c o ho) hl.size⟩
  ·rcases hv with hv | hv
   ·exact .inl hv
   ·exact .inr (.inl hv)
  ·obtain ⟨k1,k2⟩:=hnew g hg'
   exact ⟨k1.imp (h0 g) (fun h=>h),k2⟩
 refine ⟨x,h.turn ht ⟨by rw [upd_eq];exact hrow,by rw [upd_eq];intro g hg';show (u.ownBlock).getD 0=g;rw [hg'];rfl⟩,?_,ht.later⟩
 have hone:u.oneCell'=true:=by
  obtain ⟨⟨css,_,_,hh⟩,_⟩:=hrow
  rcases hh.2 with ⟨rfl,_⟩ | ⟨g,cap,cur,rfl,_⟩ <;> rfl
 refine (⟨by rw [nth_put_eq _ _ _ hin];simp,by rw [nth_put_eq _ _ _ hin];exact Nat.le_refl _,hone,fun _ _ _ _ _=>by rw [upd_eq]⟩ :
  nth (put hp id (.row v sh e t xs)) id ≠ .none∧v ≤ bver (nth (put hp id (.row v sh e t xs)) id)∧u.oneCell'=true∧∀ sh' e' t' xs',nth (put hp id (.row v sh e t xs)) id=.row v sh' e' t' xs'→u=(upd β id x id).val)
theorem rowNil (w:World) (e:TypeId) (t:Ty):RowAt w N e t false [] (.slice none 0 0):=⟨⟨[],rfl,fun i h=>(by cases h),by simp,.inl ⟨rfl,rfl⟩⟩,fun g hg=>(by cases hg)⟩
theorem op_append (hT:tabChk P T=true) {s x:Operand} {ty ty':TypeId} (ho:o.op=.call ⟨.builtin .append,#[s,x],#[ty,ty']⟩) (h:Sim G E fr hp a.tmps w β N)
 (hr:run (rdO s fun s=>rdO x fun x=>cond (Nat.beq ty ty') (tyE T ty fun ty e=>(match ty with
  | .list t=>rowA t x fun ys=>(match s with
   | .nilS=>.br (decide (ys.length ≤ roomN)) (match o.dst with | some d=>Ev.newRow d e t ys fun v=>setD o.dst v (.pure ()) | none=>.fail) .fail
   | .own id ver=>.rd true id fun b=>(match b with
    | .row v sh e' t' xs=>cond (Nat.beq v ver) (cond (Nat.beq e e') (castA (.list t') (.list t) xs fun xs=>.br (decide (xs.length + ys.length ≤ roomN))
     (.wr true id (.row (v + 1) sh e t (xs ++ ys)) (setD o.dst (.own id (v + 1)) (.pure ()))) .fail) .fail) .fail
    | _=>.fail)
   | _=>.fail)
  | _=>.fail)) .fail:U P G) fr hp=some r):Does P o a w (After G E a r):=by
 obtain ⟨vs,hvs,hr⟩:=rdO_elim h hr
 obtain ⟨vx,hvx,hr⟩:=rdO_elim h hr
 obtain ⟨hty,hr1⟩:=cond_fail hr
 have hty:ty=ty':=Nat.eq_of_beq_eq_true hty
 subst hty
 clear hr
 obtain ⟨t',e,ht,he,hr⟩:=tyE_elim hT hr1
 cases t' with
 | list t =>
  obtain ⟨hu,hte⟩:=he t rfl
  obtain ⟨i,z,hi⟩:=tyChk_info hte
  obtain ⟨ys,hy,hr⟩:=rowA_elim h hr hvx
  have fin:∀ {u:Value} {w':World} {hp':List SV} {β':Nat→BI} {N':Reg} {sv:SV},(Builtin.append_ #[ty,ty] o.type #[a.eval s,a.eval x]).run P w=.ok u w'→Sim G E fr hp' a.tmps w' β' N'→VR β' hp' w' N' sv u →
   run (setD o.dst sv (.pure ()):U P G) fr hp'=some r→Does P o a w (After G E a r):=by
   intro u w' hp' β' N' sv hrun hs hv hr
   refine does_val ?_ hs hv hr
   rw [ex_builtin ho]
   simp only [builtin,List.map_toArray,List.map_cons,List.map_nil,Sem.run_bind,hrun,Result.andThen_ok,Sem.run_pure]
  cases vs with
  | nilS =>
   have hvs:a.eval s=.slice none 0 0:=hvs
   obtain ⟨hb,hr⟩:=br_ok hr
   have hb:ys.length ≤ roomN:=by simpa using hb
   cases hd:o.dst with
   | none=>rw [hd] at hr;exact fail_elim hr
   | some d =>
    simp only [hd] at hr
    obtain ⟨v,hin,hv,hr⟩:=newRow_elim hr
    obtain ⟨u,w',hrun,hrow,hE,hl,hnew⟩:=run_append (P:=P) (dt:=o.type) h.ok hu hi (rowNil (N:=N) w e t) hy (by simpa using hb)
    obtain ⟨x,hs,hvr,_⟩:=h.putRow hin hv hE hl (fun g hg=>by cases hg) hrow hnew
    exact fin (by rw [hvs];exact hrun) hs hvr (by rw [hd];exact hr)
  | own id ver =>
   obtain ⟨h1,h2,_,h3⟩:=(hvs:nth hp id ≠ .none∧ver ≤ bver (nth hp id)∧(a.eval s).oneCell'=true∧∀ sh e t xs,nth hp id=.row ver sh e t xs→a.eval s=(β id).val)
   simp only [run,if_true] at hr
   split at hr
   ·rename_i v sh e' t' xs hrow
    obtain ⟨hver,hr1⟩:=cond_fail hr
    obtain ⟨hee,hr2⟩:=cond_fail hr1
    have hver:v=ver:=Nat.eq_of_beq_eq_true hver
    have hee:e=e':=Nat.eq_of_beq_eq_true hee
    subst hver
    subst hee
    obtain ⟨et,hr3⟩:=castA_elim hr2
    have et:t'=t:=by cases et;rfl
    subst et
    obtain ⟨hb,hr4⟩:=br_ok hr3
    have hb:xs.length + ys.length ≤ roomN:=by simpa using hb
    simp only [run,if_true] at hr4
    have hbr:=h.box id
    rw [hrow] at hbr
    have hev:=h3 _ _ _ _ hrow
    have hbr1:RowAt w N e t' sh xs (a.eval s):=by rw [hev];exact hbr.1
    obtain ⟨u,w',hrun,hrow',hE,hl,hnew⟩:=run_append (P:=P) (dt:=o.type) h.ok hu hi hbr1 hy hb
    obtain ⟨x,hs,hvr,_⟩:=h.putRow (id:=id) (v:=v + 1) (nth_in h1) (.inr (by rw [hrow];exact ⟨Nat.le_refl _,Nat.lt_succ_self v⟩)) hE hl (fun g hg=>by unfold blkOf;rw [hrow,← hg,hev];rfl) hrow' hnew
    exact fin hrun hs hvr hr4
   ·exact fail_elim hr
  | _=>exact fail_elim hr
 | _=>exact fail_elim hr
end Ev
end Go.Proofs.YtlfcdmibknmjeaaGreatDoor
namespace Go.Proofs.YtlfcdmibknmjeaaGreatDoor
namespace Ev
open Go Go.RowKit
variable {P:Program} {G:List GV} {E:Entry} {fr hp:List SV} {w:World} {β:Nat→BI} {N:Reg} {r:Unit × List SV × List SV} {a:Act} {o:Oper} {T:Tab}
theorem flat_drop {css:List (List Value)} {s:Nat} (h:∀ c ∈ css,c.length=s) (k:Nat) (hk:k ≤ css.length):css.flatten.drop (k * s)=(css.drop k).flatten:=by
 have e:css.flatten=(css.take k).flatten ++ (css.drop k).flatten:=by rw [← List.flatten_append,List.take_append_drop]
 have hl:(css.take k).flatten.length=k * s:=by
  rw [flatten_len _ (n:=s) (fun c hc=>h c (List.mem_of_mem_take hc)),List.length_take,Nat.min_eq_left hk]
 rw [e,← hl,List.drop_left]
theorem copyL_len {α:Type} (ys xs:List α):(copyL ys xs).length=xs.length:=by simp [copyL];omega
theorem run_copy {ty ty' dt e e':TypeId} {t:Ty} {i:TypeInfo} {z:Value} (hu:P.underlying ty=some (.slice e)) (hi:InfoOk P t e i z) {xs ys:List t.denote} {v u:Value}
 (hrow:RowAt w N e' t false xs v) (hy:Reads w N t ys u) :
 ∃ w',(Builtin.copy_ #[ty,ty'] dt #[v,u]).run P w=.ok (goInt (min ys.length xs.length:Nat)) w'∧RowAt w' N e' t false (copyL ys xs) v∧Ext w N w' N∧Left w w' v:=by
 by_cases hnil:ys=[] ∨ xs=[]
 ·have hc:copyL ys xs=xs:=by rcases hnil with rfl | rfl <;> simp [copyL]
  have hm:min ys.length xs.length=0:=by rcases hnil with rfl | rfl <;> simp
  rw [hc,hm]
  refine ⟨w,?_,hrow,Ext.refl w N,Left.refl w v⟩
  obtain ⟨A,cap,rfl,_⟩:=hy
  obtain ⟨⟨css,h1,h2,h3⟩,h4⟩:=id hrow
  rcases h3.2 with ⟨rfl,hn⟩ | ⟨g,cap',cur,rfl,e1,e2,e3,e4,e5,e6⟩
  ·rcases hnil with hq | hq <;> cases A <;> simp [Builtin.copy_,run_underlying hu,Builtin.lenOf,Builtin.firstCells,sizeOf,typeInfo,hi.info,hq,loadCells,loadCellsFrom]
  ·rcases hnil with hq | hq <;> cases A <;> simp [Builtin.copy_,run_underlying hu,Builtin.lenOf,Builtin.firstCells,sizeOf,typeInfo,hi.info,storeCells,hq,loadCells,loadCellsFrom]
 ·have hy0:ys ≠ []:=fun e=>hnil (.inl e)
  have hx0:xs ≠ []:=fun e=>hnil (.inr e)
  obtain ⟨ad,capy,cys,rfl,hyl,hyr,hyc⟩:=hy.cells hy0
  have hylen:=css_len hyl hyr
  obtain ⟨⟨css,h1,h2,h3⟩,h4⟩:=id hrow
  have hxlen:=css_len h1 h2
  have hxl:css.flatten.length=xs.length * t.size:=by rw [flatten_len css hxlen,h1]
  have htl:∀ c ∈ cys.take xs.length,c.length=t.size:=fun c hc=>hylen c (List.mem_of_mem_take hc)
  have hnl:(cys.take xs.length).flatten.length=min ys.length xs.length * t.size:=by rw [flatten_len _ htl,List.length_take,hyl,Nat.min_comm]
  have hle:min ys.length xs.length * t.size ≤ xs.length * t.size:=Nat.mul_le_mul_right _ (Nat.min_le_right _ _)
  rcases h3.2 with ⟨rfl,hn⟩ | ⟨g,cap,cur,rfl,e1,e2,e3,e4,e5,e6⟩
  ·exact (hx0 (List.eq_nil_of_length_eq_zero hn)).elim
  have hcap:xs.length * t.size ≤ cap * t.size:=Nat.mul_le_mul_right _ e3
  have hcs:cur.toList.length=cur.size:=Array.length_toList
  have hf:=run_firstCells_some (P:=P) w t.size (min ys.length xs.length) ad ys.length capy (cys.take xs.length).flatten hnl (fun j u hj=>hyc j u (by
   have e:cys.flatten=(cys.take xs.length).flatten ++ (cys.drop xs.length).flatten:=by rw [← List.flatten_append,List.take_append_drop]
   rw [e,List.getElem?_append_left (List.getElem?_eq_some_iff.1 hj).1,hj]))
  have hst:=run_storeCells_at P g 0 e' (cys.take xs.length).flatten 0 cur w e2 (by omega) (fun c hc=>by
   obtain ⟨l,hl,hc⟩:=List.mem_flatten.1 hc
   obtain ⟨k,hk,rfl⟩:=List.getElem_of_mem (List.mem_of_mem_take hl)
   exact rel_one _ _ _ (hyr k (by omega) hk) c hc)
  have e0:(cur.toList.take (0 + 0) ++ (cys.take xs.length).flatten ++ cur.toList.drop (0 + 0 + (cys.take xs.length).flatten.length)).toArray=(over cur.toList 0 (cys.take xs.length).flatten).toArray:=by simp [over]
  rw [e0] at hst
  have hE:Ext w N (w.setRow g (over cur.toList 0 (cys.take xs.length).flatten).toArray) N:=fun b o hb=>⟨hb,cell_other (fun e=>by
   subst e
   have:=(h4 b rfl o hb).1
   cases this)⟩
  have hcl:copyL ys xs=ys.take xs.length ++ xs.drop ys.length:=rfl
  have hml:(min ys.length xs.length)=(ys.take xs.length).length:=by simp [Nat.min_comm]
  have hfl:(cys.take xs.length ++ css.drop ys.length).flatten=over css.flatten 0 (cys.take xs.length).flatten:=by
   rw [List.flatten_append]
   simp only [over,List.take_zero,List.nil_append,Nat.zero_add,hnl]
   rw [flat_drop hxlen _ (by omega)]
   congr 2
   rcases Nat.le_total ys.length xs.length with k | k
   ·rw [Nat.min_eq_left k]
   ·rw [Nat.min_eq_right k,List.drop_eq_nil_of_le (by omega),List.drop_eq_nil_of_le (by omega)]
  refine ⟨_,?_,⟨⟨cys.take xs.length ++ css.drop ys.length,?_,?_,?_,.inr ⟨g,cap,_,by rw [copyL_len],e1,setRow_heap w g cur _ e' _ e2,by rw [copyL_len];exact e3,e4,?_,?_⟩⟩,fun g' hg' o ho=>?_⟩,hE,⟨rfl,rfl,rfl,by simp,fun k _ hk=>setRow_other w g k _ (fun e=>hk (by rw [e];rfl))⟩⟩
  ·have hmin:ys.length.min xs.length=min ys.length xs.length:=rfl
   simp [Builtin.copy_,run_underlying hu,Builtin.lenOf,sizeOf,typeInfo,hi.info,hi.size,hmin,hf,hst]
  ·rw [copyL_len];simp [hyl,h1];omega
  ·rw [hcl]
   exact css_app hE (by simp [hyl]) (fun i h h'=>by simpa using hyr i (by simp at h;omega) (by simp at h';omega)) (by simp [h1]) (fun i h h'=>by simpa using h2 (ys.length + i) (by simp at h;omega) (by simp at h';omega))
  ·rw [hfl,over_len _ (by omega),hxl,copyL_len]
  ·rw [List.size_toArray,over_len _ (by omega)];simpa using e5
  ·rw [copyL_len,hfl,← e6]
   exact over_take cur.toList _ (by omega) (by omega)
  ·rw [copyL_len];exact h4 g' hg' o ho
theorem flat_take {css:List (List Value)} {s:Nat} (h:∀ c ∈ css,c.length=s) (k:Nat) (hk:k ≤ css.length):css.flatten.take (k * s)=(css.take k).flatten:=by
 have e:css.flatten=(css.take k).flatten ++ (css.drop k).flatten:=by rw [← List.flatten_append,List.take_append_drop]
 have hl:(css.take k).flatten.length=k * s:=by
  rw [flatten_len _ (n:=s) (fun c hc=>h c (List.mem_of_mem_take hc)),List.length_take,Nat.min_eq_left hk]
 rw [e,← hl,List.take_left]
theorem copyAt_len {α:Type} {k n:Nat} (ys xs:List α) (h:k + n ≤ xs.length):(copyAt k n ys xs).length=xs.length:=by simp [copyAt];omega
theorem run_copy_at {ty ty' dt e e':TypeId} {t:Ty} {i:TypeInfo} {z:Value} (hu:P.underlying ty=some (.slice e)) (hi:InfoOk P t e i z) {xs ys:List t.denote} {v u V:Value} {A:Option Addr} {k n m cap:Nat}
 (hrow:RowAt w N e' t false xs V) (hV:V=.slice A m cap) (hmc:m ≤ cap) (hkn:k + n ≤ m) (hv:v=.slice (if cap=k then A else A.map (·.add (k * t.size))) n (cap - k)) (hy:Reads w N t ys u) :
 ∃ w',(Builtin.copy_ #[ty,ty'] dt #[v,u]).run P w=.ok (goInt (min ys.length n:Nat)) w'∧RowAt w' N e' t false (copyAt k n ys xs) V∧Ext w N w' N∧Left w w' V:=by
 by_cases hnil:ys=[] ∨ n=0
 ·have hc:copyAt k n ys xs=xs:=by rcases hnil with rfl | rfl <;> simp [copyAt]
  have hm:min ys.length n=0:=by rcases hnil with rfl | rfl <;> simp
  rw [hc,hm]
  refine ⟨w,?_,hrow,Ext.refl w N,Left.refl w V⟩
  obtain ⟨A',cap',rfl,_⟩:=hy
  subst hv
  generalize (if cap=k then A else A.map (·.add (k * t.size)))=B
  rcases hnil with hq | hq <;> cases A' <;> cases B <;> simp [Builtin.copy_,run_underlying hu,Builtin.lenOf,Builtin.firstCells,sizeOf,typeInfo,hi.info,storeCells,hq,loadCells,loadCellsFrom]
 ·have hy0:ys ≠ []:=fun e=>hnil (.inl e)
  have hn0:n ≠ 0:=fun e=>hnil (.inr e)
  obtain ⟨ad,capy,cys,rfl,hyl,hyr,hyc⟩:=hy.cells hy0
  have hylen:=css_len hyl hyr
  obtain ⟨⟨css,h1,h2,h3⟩,h4⟩:=id hrow
  have hxlen:=css_len h1 h2
  have hxl:css.flatten.length=xs.length * t.size:=by rw [flatten_len css hxlen,h1]
  have htl:∀ c ∈ cys.take n,c.length=t.size:=fun c hc=>hylen c (List.mem_of_mem_take hc)
  have hnl:(cys.take n).flatten.length=min ys.length n * t.size:=by rw [flatten_len _ htl,List.length_take,hyl,Nat.min_comm]
  rcases h3.2 with ⟨e0,hn⟩ | ⟨g,cap',cur,e0,e1,e2,e3,e4,e5,e6⟩
  ·rw [e0] at hV
   cases hV
   omega
  rw [hV] at e0
  cases e0
  have hck:¬ cap=k:=by omega
  rw [if_neg hck] at hv
  have hadd:(⟨g,0,none⟩:Addr).add (k * t.size)=⟨g,k * t.size,none⟩:=by simp [Addr.add];omega
  have hv:v=.slice (some ⟨g,k * t.size,none⟩) n (cap - k):=by rw [hv];simp [hadd]
  subst hv
  have hle:k * t.size + min ys.length n * t.size ≤ xs.length * t.size:=by rw [← Nat.add_mul];exact Nat.mul_le_mul_right _ (by omega)
  have hcap:xs.length * t.size ≤ cap * t.size:=Nat.mul_le_mul_right _ e3
  have hcs:cur.toList.length=cur.size:=Array.length_toList
  have hf:=run_firstCells_some (P:=P) w t.size (min ys.length n) ad ys.length capy (cys.take n).flatten hnl (fun j u hj=>hyc j u (by
   have e:cys.flatten=(cys.take n).flatten ++ (cys.drop n).flatten:=by rw [← List.flatten_append,List.take_append_drop]
   rw [e,List.getElem?_append_left (List.getElem?_eq_some_iff.1 hj).1,hj]))
  have hst:=run_storeCells_at P g (k * t.size) e' (cys.take n).flatten 0 cur w e2 (by omega) (fun c hc=>by
   obtain ⟨l,hl,hc⟩:=List.mem_flatten.1 hc
   obtain ⟨q,hq,rfl⟩:=List.getElem_of_mem (List.mem_of_mem_take hl)
   exact rel_one _ _ _ (hyr q (by omega) hq) c hc)
  have e0:(cur.toList.take (k * t.size + 0) ++ (cys.take n).flatten ++ cur.toList.drop (k * t.size + 0 + (cys.take n).flatten.length)).toArray=(over cur.toList (k * t.size) (cys.take n).flatten).toArray:=by simp [over]
  rw [e0] at hst
  have hE:Ext w N (w.setRow g (over cur.toList (k * t.size) (cys.take n).flatten).toArray) N:=fun b o hb=>⟨hb,cell_other (fun e=>by
   subst e
   have:=(h4 b (by rw [hV];rfl) o hb).1
   cases this)⟩
  have hyt:(ys.take n).length=min ys.length n:=by simp [Nat.min_comm]
  have hcl:copyAt k n ys xs=xs.take k ++ ys.take n ++ xs.drop (k + min ys.length n):=by unfold copyAt;rw [hyt]
  have hfl:(css.take k ++ cys.take n ++ css.drop (k + min ys.length n)).flatten=over css.flatten (k * t.size) (cys.take n).flatten:=by
   rw [List.flatten_append,List.flatten_append]
   simp only [over,hnl]
   rw [flat_take hxlen k (by omega),← Nat.add_mul,flat_drop hxlen _ (by omega)]
  refine ⟨_,?_,⟨⟨css.take k ++ cys.take n ++ css.drop (k + min ys.length n),?_,?_,?_,.inr ⟨g,cap,_,by rw [copyAt_len _ _ hkn];exact hV,e1,setRow_heap w g cur _ e' _ e2,by rw [copyAt_len _ _ hkn];exact e3,e4,?_,?_⟩⟩,fun g' hg' o ho=>?_⟩,hE,⟨rfl,rfl,rfl,by simp,fun q _ hq=>setRow_other w g q _ (fun e=>hq (by rw [hV,e];rfl))⟩⟩
  ·skip
   have hmin':ys.length.min n=min ys.length n:=rfl
   simp [Builtin.copy_,run_underlying hu,Builtin.lenOf,sizeOf,typeInfo,hi.info,hi.size,hmin',hf,hst]
  ·rw [copyAt_len _ _ hkn];simp [hyl,h1];omega
  ·rw [hcl]
   exact css_app hE (by simp [h1,hyl]) (css_app (Ext.refl w N) (by simp [h1]) (fun i h h'=>by simpa using h2 i (by simp at h;omega) (by simp at h';omega)) (by simp [hyl]) (fun i h h'=>by simpa using hyr i (by simp at h;omega) (by simp at h';omega))) (by simp [h1]) (fun i h h'=>by simpa using h2 (k + min ys.length n + i) (by simp at h;omega) (by simp at h';omega))
  ·rw [hfl,over_len _ (by omega),hxl,copyAt_len _ _ hkn]
  ·rw [List.size_toArray,over_len _ (by omega)];simpa using e5
  ·rw [copyAt_len _ _ hkn,hfl,← e6]
   exact over_take cur.toList _ (by omega) (by omega)
  ·rw [copyAt_len _ _ hkn];exact h4 g' hg' o ho
theorem Sim.sameRow (h:Sim G E fr hp a.tmps w β N) {id v:Nat} {e:TypeId} {t:Ty} {xs ys:List t.denote} {w':World} (hb:nth hp id=.row v false e t xs) (hlen:ys.length=xs.length) (hE:Ext w N w' N) (hl:Left w w' (β id).val)
 (hrow:RowAt w' N e t false ys (β id).val):Sim G E fr (put hp id (.row v false e t ys)) a.tmps w' β N:=by
 have hin:id < hp.length:=nth_in (by rw [hb];simp)
 have hbo:blkOf β hp id=(β id).val.ownBlock:=by unfold blkOf;rw [hb];rfl
 have ht:Turn β hp w N id (β id) (.row v false e t ys) w' N:=by
  refine ⟨hin,by simp,.inr (.inr ⟨by rw [hb];rfl,rfl,fun q=>by rw [hb];simp only [inBox,hlen],by rw [hb];rfl⟩),hE,fun i hi g' hg'=>⟨hl.block g' (h.bnd _ _ hg').1 (fun e=>hi (h.apart _ _ _ hg' (hbo.trans e))),fun _ ho=>ho⟩,fun g' hg'=>?_,fun k hk hk2=>hl.block k hk (fun e=>hk2 (hbo.trans e)),hl.os,hl.tape,hl.output,hl.size,fun c o ho=>.inl ho,fun c o ho=>Nat.lt_of_lt_of_le (h.ok c o ho) hl.size⟩
  have hg'':blkOf β hp id=some g':=hbo.trans hg'
  exact ⟨.inl hg'',Nat.lt_of_lt_of_le (h.bnd _ _ hg'').1 hl.size⟩
 have hbr:=h.box id
 rw [hb] at hbr
 have hs:=h.turn ht (by rw [upd_self];exact ⟨hrow,hbr.2⟩)
 rwa [upd_self] at hs
theorem op_copy (hT:tabChk P T=true) {d x:Operand} {ty ty':TypeId} (ho:o.op=.call ⟨.builtin .copy,#[d,x],#[ty,ty']⟩) (h:Sim G E fr hp a.tmps w β N)
 (hr:run (rdO d fun d=>rdO x fun x=>tyE T ty fun ty _=>(match ty with
  | .list t=>(match d with
   | .own id ver=>.rd true id fun b=>(match b with
    | .row v sh e' t' xs=>cond sh .fail (cond (Nat.beq v ver) (castA (.list t') (.list t) xs fun xs=>rowA t x fun ys =>
     .wr true id (.row v false e' t (copyL ys xs)) (setD o.dst (.imm (.int .i64) (copyN ys.length xs.length)) (.pure ()))) .fail)
    | _=>.fail)
   | .sub id ver i n u=>.rd true id fun b=>(match b with
    | .row v sh e' t' xs=>cond sh .fail (cond (Nat.beq v ver) (if u=t' then castA (.list t') (.list t) xs fun xs=>rowA t x fun ys =>
     .wr true id (.row v false e' t (copyAt i n ys xs)) (setD o.dst (.imm (.int .i64) (copyN ys.length n)) (.pure ())) else .fail) .fail)
    | _=>.fail)
   | _=>.fail)
  | _=>.fail):U P G) fr hp=some r):Does P o a w (After G E a r):=by
 obtain ⟨vd,hvd,hr⟩:=rdO_elim h hr
 obtain ⟨vx,hvx,hr⟩:=rdO_elim h hr
 obtain ⟨t',e,ht,he,hr⟩:=tyE_elim hT hr
 cases t' with
 | list t =>
  obtain ⟨hu,hte⟩:=he t rfl
  obtain ⟨i,z,hi⟩:=tyChk_info hte
  cases vd with
  | own id ver =>
   obtain ⟨h1,h2,_,h3⟩:=(hvd:nth hp id ≠ .none∧ver ≤ bver (nth hp id)∧(a.eval d).oneCell'=true∧∀ sh e t xs,nth hp id=.row ver sh e t xs→a.eval d=(β id).val)
   simp only [run,if_true] at hr
   split at hr
   ·rename_i v sh e' t' xs hrow
    cases sh with
    | true=>exact fail_elim hr
    | false =>
     obtain ⟨hver,hr1⟩:=cond_fail (show run (cond (Nat.beq v ver) _ _:U P G) fr hp=some r from hr)
     have hver:v=ver:=Nat.eq_of_beq_eq_true hver
     subst hver
     obtain ⟨et,hr3⟩:=castA_elim hr1
     have et:t'=t:=by cases et;rfl
     subst et
     obtain ⟨ys,hy,hr4⟩:=rowA_elim h hr3 hvx
     simp only [run,if_true] at hr4
     have hbr:=h.box id
     rw [hrow] at hbr
     obtain ⟨w',hrun,hrow',hE,hl⟩:=run_copy (P:=P) (ty':=ty') (dt:=o.type) hu hi hbr.1 hy
     have hs:=h.sameRow hrow (copyL_len ys xs) hE hl hrow'
     refine does_val ?_ hs (ivint _ _) hr4
     rw [← h3 _ _ _ _ hrow] at hrun
     rw [ex_builtin ho]
     simp only [builtin,List.map_toArray,List.map_cons,List.map_nil,Sem.run_bind,hrun,Result.andThen_ok,Sem.run_pure]
     rfl
   ·exact fail_elim hr
  | sub id ver k n u0 =>
   obtain ⟨h1,h2,_,h3⟩:=(hvd:nth hp id ≠ .none∧ver ≤ bver (nth hp id)∧(a.eval d).oneCell'=true∧∀ sh e t' xs,nth hp id=.row ver sh e t' xs→∃ A m cap,(β id).val=.slice A m cap∧m ≤ cap∧k + n ≤ m∧a.eval d=.slice (if cap=k then A else A.map (·.add (k * u0.size))) n (cap - k))
   simp only [run,if_true] at hr
   split at hr
   ·rename_i v sh e' t' xs hrow
    cases sh with
    | true=>exact fail_elim hr
    | false =>
     obtain ⟨hver,hr1⟩:=cond_fail (show run (cond (Nat.beq v ver) _ _:U P G) fr hp=some r from hr)
     have hver:v=ver:=Nat.eq_of_beq_eq_true hver
     subst hver
     split at hr1
     ·rename_i eu
      subst eu
      obtain ⟨et,hr3⟩:=castA_elim hr1
      have et:u0=t:=by cases et;rfl
      subst et
      obtain ⟨ys,hy,hr4⟩:=rowA_elim h hr3 hvx
      simp only [run,if_true] at hr4
      have hbr:=h.box id
      rw [hrow] at hbr
      obtain ⟨A,m,cap,q1,q2,q3,q4⟩:=h3 _ _ _ _ hrow
      obtain ⟨A',cap',q5,_⟩:=hbr.1.cells
      have hm:m=xs.length:=by rw [q1] at q5;cases q5;rfl
      obtain ⟨w',hrun,hrow',hE,hl⟩:=run_copy_at (P:=P) (ty':=ty') (dt:=o.type) hu hi hbr.1 q1 q2 q3 q4 hy
      have hs:=h.sameRow hrow (copyAt_len ys xs (by omega)) hE hl hrow'
      refine does_val ?_ hs (ivint _ _) hr4
      rw [ex_builtin ho]
      simp only [builtin,List.map_toArray,List.map_cons,List.map_nil,Sem.run_bind,hrun,Result.andThen_ok,Sem.run_pure]
      rfl
     ·exact fail_elim hr1
   ·exact fail_elim hr
  | _=>exact fail_elim hr
 | _=>exact fail_elim hr
theorem RowAt.head {e:TypeId} {t:Ty} {xs:List t.denote} {V:Value} {A:Option Addr} {m cap n:Nat} (hrow:RowAt w N e t false xs V) (hV:V=.slice A m cap) (hn:n ≤ m) :
 RowAt w N e t false (xs.take n) (.slice A n cap)∧((Value.slice A n cap).ownBlock=V.ownBlock):=by
 obtain ⟨⟨css,h1,h2,h3⟩,h4⟩:=hrow
 have hxlen:=css_len h1 h2
 have ho:(Value.slice A n cap).ownBlock=V.ownBlock:=by subst hV;cases A <;> rfl
 refine ⟨⟨⟨css.take n,by simp [h1],fun i hi hi'=>?_,?_,?_⟩,fun g hg o hgo=>?_⟩,ho⟩
 ·simpa using h2 i (by simp at hi;omega) (by simp at hi';omega)
 ·rw [flatten_len _ (n:=t.size) (fun c hc=>hxlen c (List.mem_of_mem_take hc))];simp [h1]
 ·rcases h3.2 with ⟨e0,hz⟩ | ⟨g,cap',cur,e0,e1,e2,e3,e4,e5,e6⟩
  ·rw [e0] at hV
   cases hV
   have:n=0:=by omega
   subst this
   exact .inl ⟨rfl,by simp⟩
  ·rw [e0] at hV
   cases hV
   refine .inr ⟨g,cap,cur,by simp;omega,e1,e2,by simp;omega,e4,e5,?_⟩
   have hk:(xs.take n).length=n:=by simp;omega
   rw [hk]
   have:=flat_take hxlen n (by omega)
   rw [← this,← e6,List.take_take,Nat.min_eq_left (Nat.mul_le_mul_right _ hn)]
 ·rw [ho] at hg
  have:=(h4 g hg o hgo).1
  cases this
theorem op_assign {x:Operand} (ho:o.op=.assign x) (h:Sim G E fr hp a.tmps w β N) (hr:run (rdO x fun v=>asgA v fun v=>setD o.dst v (.pure ()):U P G) fr hp=some r):Does P o a w (After G E a r):=by
 obtain ⟨v,hv,hr⟩:=rdO_elim h hr
 have plain:run (setD o.dst v (.pure ()):U P G) fr hp=some r→Does P o a w (After G E a r):=fun hr=>does_val (u:=a.eval x) (by unfold execOp;rw [ho];rfl) h hv hr
 cases v with
 | sub id ver i n t=>cases i with
  | zero =>
   obtain ⟨h1,h2,_,h3⟩:=(hv:nth hp id ≠ .none∧ver ≤ bver (nth hp id)∧(a.eval x).oneCell'=true∧∀ sh e t' xs,nth hp id=.row ver sh e t' xs→∃ A m cap,(β id).val=.slice A m cap∧m ≤ cap∧0 + n ≤ m∧a.eval x=.slice (if cap=0 then A else A.map (·.add (0 * t.size))) n (cap - 0))
   simp only [asgA,run,if_true] at hr
   split at hr
   ·rename_i v sh e' t' xs hrow
    obtain ⟨hver,hr1⟩:=cond_fail hr
    have hver:v=ver:=Nat.eq_of_beq_eq_true hver
    subst hver
    cases sh with
    | true=>exact fail_elim hr1
    | false =>
     have hr1:run (if t=t' then .wr true id (.row (v + 1) false e' t' (xs.take n)) (setD o.dst (.own id (v + 1)) (.pure ())) else .fail:U P G) fr hp=some r:=hr1
     split at hr1
     ·rename_i et
      subst et
      simp only [run,if_true] at hr1
      obtain ⟨A,m,cap,q1,q2,q3,q4⟩:=h3 _ _ _ _ hrow
      have q5:a.eval x=.slice A n cap:=by
       rw [q4]
       have:(if cap=0 then A else A.map (·.add (0 * t.size)))=A:=by
        split
        ·rfl
        ·cases A with
         | none=>rfl
         | some ad =>
          have hbr:=h.box id
          rw [hrow] at hbr
          obtain ⟨A',cap',q6,_,_,hA,_⟩:=hbr.1.cells
          rw [q1] at q6
          cases q6
          obtain ⟨o1,o2,_⟩:=hA ad rfl
          simp only [Option.map_some,Nat.zero_mul,Option.some.injEq]
          obtain ⟨b,o,s⟩:=ad
          simp only at o1 o2
          subst o1 o2
          simp [Addr.add]
       rw [this]
       rfl
      have hbr:=h.box id
      rw [hrow] at hbr
      obtain ⟨hrow',hob⟩:=hbr.1.head q1 (show n ≤ m by omega)
      rw [← q5] at hrow' hob
      have hbo:blkOf β hp id=(β id).val.ownBlock:=by unfold blkOf;rw [hrow];rfl
      obtain ⟨y,hs,hvr,_⟩:=h.putRow (id:=id) (v:=v + 1) (u0:=(β id).val) (nth_in h1) (.inr (by rw [hrow];exact ⟨Nat.le_refl _,Nat.lt_succ_self v⟩)) (Ext.refl w N) (Left.refl w _) (fun g hg=>by rw [hbo];exact hg) hrow' (fun g hg=>by rw [hob] at hg;exact ⟨.inl hg,(h.bnd id g (hbo.trans hg)).1⟩)
      exact does_val (u:=a.eval x) (by unfold execOp;rw [ho];rfl) hs hvr hr1
     ·exact fail_elim hr1
   ·exact fail_elim hr
  | succ i=>exact plain hr
 | _=>exact plain hr
end Ev
end Go.Proofs.YtlfcdmibknmjeaaGreatDoor
namespace Go.Proofs.YtlfcdmibknmjeaaGreatDoor
namespace Ev
open Go Go.RowKit
variable {P:Program} {G:List GV} {α:Type} {E:Entry} {fr hp:List SV} {tm:Array Value} {w:World} {β:Nat→BI} {N:Reg} {r:α × List SV × List SV} {ρ:Nat→Nat}
theorem hd_cons {t:Ty} {l:List Ty} (x:t.denote) (r:Tup l):hdT (consT x r)=x:=by cases l <;> rfl
theorem tl_cons {t:Ty} {l:List Ty} (x:t.denote) (r:Tup l):tlT (consT x r)=r:=by cases l <;> rfl
theorem cons_hd_tl {t:Ty}:∀ {l:List Ty} (x:Tup (t :: l)),consT (hdT x) (tlT x)=x
 | [],_=>rfl
 | _ :: _,_=>rfl
theorem fst_app:∀ (a:List Ty) {b:List Ty} (x:Tup a) (y:Tup b),fstT a (appT a x y)=x
 | [],_,_,_=>rfl
 | t :: a,b,x,y=>by
  show consT (hdT (consT (hdT x) (appT a (tlT x) y))) (fstT a (tlT (consT (hdT x) (appT a (tlT x) y))))=x
  rw [hd_cons,tl_cons,fst_app a,cons_hd_tl]
theorem snd_app:∀ (a:List Ty) {b:List Ty} (x:Tup a) (y:Tup b),sndT a (appT a x y)=y
 | [],_,_,_=>rfl
 | t :: a,b,x,y=>by
  show sndT a (tlT (consT (hdT x) (appT a (tlT x) y)))=y
  rw [tl_cons,snd_app a]
theorem HL.gh {hp':List SV} {N':Reg} (g:Gh G E fr hp tm w β N hp' N'):∀ (sh:Sh) (x:Tup sh.tys) (u:Value),HL ρ β hp w N sh x u→HL ρ β hp' w N' sh x u
 | .imm t,x,u,h=>h.ext g.ext
 | .nilS,_,_,h=>h
 | .nilP,_,_,h=>h
 | .fn _,_,_,h=>h
 | .own id _ e t,x,u,h=>by
  rcases h with ⟨v,s,h1,h2⟩ | ⟨h1,h2⟩
  ·rcases g.shd (ρ id) with k | ⟨v',s',e',t',xs',k1,k2⟩
   ·exact .inl ⟨v,s,k.trans h1,h2⟩
   ·rw [h1] at k1;cases k1
    exact .inl ⟨_,_,k2,h2⟩
  ·rcases g.shd (ρ id) with k | ⟨v',s',e',t',xs',k1,k2⟩
   ·exact .inr ⟨by rw [k];exact h1,h2⟩
   ·rcases h1 with h1 | ⟨_,h1⟩ <;> (rw [h1] at k1;cases k1)
 | .alias id,_,u,h=>by
  obtain ⟨⟨v,s,e,t,xs,h1⟩,h2⟩:=h
  rcases g.shd (ρ id) with k | ⟨v',s',e',t',xs',k1,k2⟩
  ·exact ⟨⟨v,s,e,t,xs,k.trans h1⟩,h2⟩
  ·exact ⟨⟨_,_,_,_,_,k2⟩,h2⟩
 | .ptr id path t,_,u,h=>by
  obtain ⟨h1,h2⟩:=h
  rcases g.shd (ρ id) with k | ⟨v',s',e',t',xs',k1,k2⟩
  ·exact ⟨by rw [k];exact h1,h2⟩
  ·rw [k1] at h1;exact h1.elim
 | .iptr t,x,u,h=>by
  obtain ⟨ad,cs,h1,h2,h3⟩:=h
  exact ⟨ad,cs,h1,rel_ext g.ext _ _ _ h2,h3.ext g.ext⟩
 | .mp id kt vt,x,u,h=>by
  obtain ⟨h1,h2⟩:=h
  rcases g.shd (ρ id) with k | ⟨v',s',e',t',xs',k1,k2⟩
  ·exact ⟨k.trans h1,h2⟩
  ·rw [h1] at k1;cases k1
 | .malias id,x,u,h=>by
  obtain ⟨⟨a,b,l,h1⟩,h2⟩:=h
  rcases g.shd (ρ id) with k | ⟨v',s',e',t',xs',k1,k2⟩
  ·exact ⟨⟨a,b,l,k.trans h1⟩,h2⟩
  ·rw [h1] at k1;cases k1
 | .agg _ _,_,_,h=>h
 | .acons _ _,_,_,h=>h
 | .anil,_,_,h=>h
theorem HC.gh {hp':List SV} {N':Reg} (g:Gh G E fr hp tm w β N hp' N'):∀ (sh:Sh) (x:Tup sh.tys) (t:Ty) (tl:Bool) (cs:List Value),HC ρ β hp w N sh x t tl cs→HC ρ β hp' w N' sh x t tl cs
 | .imm t',x,t,false,cs,h=>⟨h.1,rel_ext g.ext _ _ _ h.2⟩
 | .nilS,x,t,false,cs,h=>by obtain ⟨h1,c,h2,h3⟩:=h;exact ⟨h1,c,h2,HL.gh g .nilS x c h3⟩
 | .nilP,x,t,false,cs,h=>by obtain ⟨h1,c,h2,h3⟩:=h;exact ⟨h1,c,h2,HL.gh g .nilP x c h3⟩
 | .own id sh e t',x,t,false,cs,h=>by obtain ⟨h1,c,h2,h3⟩:=h;exact ⟨h1,c,h2,HL.gh g (.own id sh e t') x c h3⟩
 | .alias id,x,t,false,cs,h=>by obtain ⟨h1,c,h2,h3⟩:=h;exact ⟨h1,c,h2,HL.gh g (.alias id) x c h3⟩
 | .ptr id path t',x,t,false,cs,h=>by obtain ⟨h1,c,h2,h3⟩:=h;exact ⟨h1,c,h2,HL.gh g (.ptr id path t') x c h3⟩
 | .mp id kt vt,x,t,false,cs,h=>by obtain ⟨h1,c,h2,h3⟩:=h;exact ⟨h1,c,h2,HL.gh g (.mp id kt vt) x c h3⟩
 | .malias id,x,t,false,cs,h=>by obtain ⟨h1,c,h2,h3⟩:=h;exact ⟨h1,c,h2,HL.gh g (.malias id) x c h3⟩
 | .agg t' c,x,t,false,cs,h=>⟨h.1,h.2.1,HC.gh g c x t true cs h.2.2⟩
 | .acons a b,x,t,true,cs,h=>by
  obtain ⟨ta,tb,c1,c2,h1,h2,h3,h4⟩:=h
  exact ⟨ta,tb,c1,c2,h1,h2,HC.gh g a _ ta false c1 h3,HC.gh g b _ tb true c2 h4⟩
 | .anil,_,t,true,cs,h=>h
 | .iptr _,_,_,false,_,h=>h
 | .fn _,_,_,false,_,h=>h
 | .acons _ _,_,_,false,_,h=>h
 | .anil,_,_,false,_,h=>h
 | .imm _,_,_,true,_,h=>h
 | .nilS,_,_,true,_,h=>h
 | .nilP,_,_,true,_,h=>h
 | .own _ _ _ _,_,_,true,_,h=>h
 | .alias _,_,_,true,_,h=>h
 | .ptr _ _ _,_,_,true,_,h=>h
 | .iptr _,_,_,true,_,h=>h
 | .mp _ _ _,_,_,true,_,h=>h
 | .malias _,_,_,true,_,h=>h
 | .fn _,_,_,true,_,h=>h
 | .agg _ _,_,_,true,_,h=>h
theorem HV.gh {hp':List SV} {N':Reg} (g:Gh G E fr hp tm w β N hp' N'):∀ (sh:Sh) (x:Tup sh.tys) (u:Value),HV ρ β hp w N sh x u→HV ρ β hp' w N' sh x u
 | .agg t c,x,_,h=>by obtain ⟨cs,h1,h2⟩:=h;exact ⟨cs,h1,HC.gh (ρ:=ρ) g (.agg t c) x t false cs h2⟩
 | .imm t,x,u,h=>HL.gh (ρ:=ρ) g (.imm t) x u h
 | .nilS,x,u,h=>HL.gh (ρ:=ρ) g .nilS x u h
 | .nilP,x,u,h=>HL.gh (ρ:=ρ) g .nilP x u h
 | .own id sh e t,x,u,h=>HL.gh (ρ:=ρ) g (.own id sh e t) x u h
 | .alias id,x,u,h=>HL.gh (ρ:=ρ) g (.alias id) x u h
 | .ptr id path t,x,u,h=>HL.gh (ρ:=ρ) g (.ptr id path t) x u h
 | .iptr t,x,u,h=>HL.gh (ρ:=ρ) g (.iptr t) x u h
 | .mp id kt vt,x,u,h=>HL.gh (ρ:=ρ) g (.mp id kt vt) x u h
 | .malias id,x,u,h=>HL.gh (ρ:=ρ) g (.malias id) x u h
 | .fn f,x,u,h=>HL.gh (ρ:=ρ) g (.fn f) x u h
 | .acons a b,x,u,h=>HL.gh (ρ:=ρ) g (.acons a b) x u h
 | .anil,x,u,h=>HL.gh (ρ:=ρ) g .anil x u h
theorem pathEqA_elim {k:Acc P G α}:∀ (p:List Step) (q:List Nat),run (pathEqA p q k) fr hp=some r→p=q.map .fld∧run k fr hp=some r
 | [],[],hr=>⟨rfl,hr⟩
 | [],_ :: _,hr=>fail_elim hr
 | .fld n :: p,[],hr=>fail_elim hr
 | .idx n :: p,q,hr=>by cases q <;> exact fail_elim hr
 | .fld n :: p,m :: q,hr=>by
  obtain ⟨h1,hr⟩:=cond_fail (show run (cond (Nat.beq n m) (pathEqA p q k) .fail) fr hp=some r from hr)
  obtain ⟨h2,hr⟩:=pathEqA_elim p q hr
  have h1:n=m:=Nat.eq_of_beq_eq_true h1
  exact ⟨by rw [h1,h2];rfl,hr⟩
theorem capL:∀ (sh:Sh) (v:SV) (u:Value) (k:Tup sh.tys→Acc P G α),(∀ t,sh ≠ .imm t)→(∀ t c,sh ≠ .agg t c)→run (capSh ρ sh false v [] k) fr hp=some r→LR β hp w N v u →
 ∃ x,HL ρ β hp w N sh x u∧run (k x) fr hp=some r
 | .imm t,_,_,_,h1,_,_,_=>(h1 t rfl).elim
 | .agg t c,_,_,_,_,h2,_,_=>(h2 t c rfl).elim
 | .nilS,v,u,k,_,_,hr,hl=>by
  cases v with
  | nilS=>exact ⟨(),hl,hr⟩
  | _=>exact fail_elim hr
 | .nilP,v,u,k,_,_,hr,hl=>by
  cases v with
  | nilP=>exact ⟨(),hl,hr⟩
  | _=>exact fail_elim hr
 | .own id sh e t,v,u,k,_,_,hr,hl=>by
  cases v with
  | nilS =>
   simp only [capSh,run,if_true] at hr
   split at hr
   ·rename_i hb;exact ⟨[],.inr ⟨.inl hb,rfl,hl⟩,hr⟩
   ·rename_i hb;exact ⟨[],.inr ⟨.inr ⟨_,hb⟩,rfl,hl⟩,hr⟩
   ·exact fail_elim hr
  | own id' ver =>
   obtain ⟨hid,hr1⟩:=cond_fail (show run (cond (Nat.beq (ρ id) id') _ .fail) fr hp=some r from hr)
   have hid:ρ id=id':=Nat.eq_of_beq_eq_true hid
   subst hid
   clear hr
   simp only [run,if_true] at hr1
   split at hr1
   ·rename_i ver' sh' e' t' xs hrow
    obtain ⟨hc,hr2⟩:=cond_fail hr1
    simp only [Bool.and_eq_true] at hc
    obtain ⟨⟨c1,c2⟩,_⟩:=hc
    have c1:ver=ver':=Nat.eq_of_beq_eq_true c1
    have c2:e=e':=Nat.eq_of_beq_eq_true c2
    subst c1
    subst c2
    obtain ⟨et,hr3⟩:=castA_elim hr2
    have et':t'=t:=by cases et;rfl
    subst et'
    obtain ⟨_,_,_,h3⟩:=(hl:nth hp (ρ id) ≠ .none∧ver ≤ bver (nth hp (ρ id))∧u.oneCell'=true∧∀ sh e t xs,nth hp (ρ id)=.row ver sh e t xs→u=(β (ρ id)).val)
    exact ⟨xs,.inl ⟨_,_,hrow,h3 _ _ _ _ hrow⟩,hr3⟩
   ·exact fail_elim hr1
  | _=>exact fail_elim hr
 | .alias id,v,u,k,_,_,hr,hl=>by
  cases v with
  | own id' ver =>
   obtain ⟨hid,hr1⟩:=cond_fail (show run (cond (Nat.beq (ρ id) id') _ .fail) fr hp=some r from hr)
   have hid:ρ id=id':=Nat.eq_of_beq_eq_true hid
   subst hid
   clear hr
   simp only [run,if_true] at hr1
   split at hr1
   ·rename_i ver' sh' e' t' xs hrow
    obtain ⟨c1,hr2⟩:=cond_fail hr1
    have c1:ver=ver':=Nat.eq_of_beq_eq_true c1
    subst c1
    obtain ⟨_,_,_,h3⟩:=(hl:nth hp (ρ id) ≠ .none∧ver ≤ bver (nth hp (ρ id))∧u.oneCell'=true∧∀ sh e t xs,nth hp (ρ id)=.row ver sh e t xs→u=(β (ρ id)).val)
    exact ⟨(),⟨⟨_,_,_,_,_,hrow⟩,h3 _ _ _ _ hrow⟩,hr2⟩
   ·exact fail_elim hr1
  | _=>exact fail_elim hr
 | .ptr id path t,v,u,k,_,_,hr,hl=>by
  cases v with
  | ptr id' ver p t' =>
   obtain ⟨hc,hr1⟩:=cond_fail (show run (cond (Nat.beq (ρ id) id' && Nat.beq ver 0) _ .fail) fr hp=some r from hr)
   simp only [Bool.and_eq_true] at hc
   have hid:ρ id=id':=Nat.eq_of_beq_eq_true hc.1
   have hv:ver=0:=Nat.eq_of_beq_eq_true hc.2
   subst hid
   subst hv
   clear hr
   obtain ⟨et,hr2⟩:=eqA_elim hr1
   subst et
   obtain ⟨ep,hr3⟩:=pathEqA_elim p path hr2
   subst ep
   simp only [run,if_true] at hr3
   obtain ⟨_,_,_,h4⟩:=(hl:nth hp (ρ id) ≠ .none∧0 ≤ bver (nth hp (ρ id))∧(∃ ad,u=.pointer (some ad))∧(0=bver (nth hp (ρ id))→∃ o,inBox (β (ρ id)).bt (nth hp (ρ id)) (path.map .fld)=some (o,t')∧u=.pointer (some ⟨(β (ρ id)).blk,o,none⟩)))
   have cell:IsCell (nth hp (ρ id))→HL ρ β hp w N (.ptr id path t') () u:=fun hc=>by
    cases hb:nth hp (ρ id) with
    | none=>rw [hb] at hc;exact hc.elim
    | row a b c d e=>rw [hb] at hc;exact hc.elim
    | mp a b c=>rw [hb] at hc;exact hc.elim
    | dead a=>rw [hb] at hc;exact hc.elim
    | _ =>
     obtain ⟨o,h5,h6⟩:=h4 (by rw [hb];rfl)
     rw [hb] at h5
     exact ⟨hc,o,h5,h6⟩
   split at hr3
   ·exact fail_elim hr3
   ·exact fail_elim hr3
   ·exact fail_elim hr3
   ·exact fail_elim hr3
   ·rename_i h1 h0 h2 h3
    refine ⟨(),cell ?_,hr3⟩
    cases hb:nth hp (ρ id) with
    | none=>exact (h1 hb).elim
    | dead v=>exact (h0 _ hb).elim
    | row a b c d e=>exact (h2 _ _ _ _ _ hb).elim
    | mp a b c=>exact (h3 _ _ _ hb).elim
    | _=>exact True.intro
  | _=>exact fail_elim hr
 | .mp id kt vt,v,u,k,_,_,hr,hl=>by
  cases v with
  | mph id' =>
   obtain ⟨hid,hr1⟩:=cond_fail (show run (cond (Nat.beq (ρ id) id') _ .fail) fr hp=some r from hr)
   have hid:ρ id=id':=Nat.eq_of_beq_eq_true hid
   subst hid
   clear hr
   simp only [run,if_true] at hr1
   split at hr1
   ·rename_i kt' vt' l hm
    obtain ⟨et,hr2⟩:=castA_elim hr1
    have e1:kt'=kt:=by cases et;rfl
    have e2:vt'=vt:=by cases et;rfl
    subst e1
    subst e2
    exact ⟨l,⟨hm,(hl:nth hp (ρ id) ≠ .none∧(∃ r,u=.map (some r))∧∀ kt vt l,nth hp (ρ id)=.mp kt vt l→u=.map (some (β (ρ id)).blk)).2.2 _ _ _ hm⟩,hr2⟩
   ·exact fail_elim hr1
  | _=>exact fail_elim hr
 | .malias id,v,u,k,_,_,hr,hl=>by
  cases v with
  | mph id' =>
   obtain ⟨hid,hr1⟩:=cond_fail (show run (cond (Nat.beq (ρ id) id') _ .fail) fr hp=some r from hr)
   have hid:ρ id=id':=Nat.eq_of_beq_eq_true hid
   subst hid
   clear hr
   simp only [run,if_true] at hr1
   split at hr1
   ·rename_i kt' vt' l hm
    exact ⟨(),⟨⟨_,_,_,hm⟩,(hl:nth hp (ρ id) ≠ .none∧(∃ r,u=.map (some r))∧∀ kt vt l,nth hp (ρ id)=.mp kt vt l→u=.map (some (β (ρ id)).blk)).2.2 _ _ _ hm⟩,hr1⟩
   ·exact fail_elim hr1
  | _=>exact fail_elim hr
 | .fn f,v,u,k,_,_,hr,hl=>by
  cases v with
  | fn g =>
   obtain ⟨e,hr1⟩:=cond_fail (show run (cond (Nat.beq f g) (k ()) .fail) fr hp=some r from hr)
   have e:f=g:=Nat.eq_of_beq_eq_true e
   subst e
   exact ⟨(),hl,hr1⟩
  | _=>exact fail_elim hr
 | .iptr t,v,u,k,_,_,hr,hl=>by
  cases v with
  | iptr t' x =>
   obtain ⟨et,hr⟩:=castA_elim (show run (castA t' t x k) fr hp=some r from hr)
   subst et
   exact ⟨x,hl,hr⟩
  | _=>exact fail_elim hr
 | .acons _ _,_,_,_,_,_,hr,_=>fail_elim hr
 | .anil,_,_,_,_,_,hr,_=>fail_elim hr
theorem leafLR {t:Ty} {v:SV} {cs:List Value} (hc:CR β hp w N t false v [] cs) (ht:(∃ u,t=.list u) ∨ t=.opq) (hi:∀ t' x,v ≠ .imm t' x):∃ c,cs=[c]∧LR β hp w N v c:=by
 rcases ht with ⟨u,rfl⟩ | rfl
 ·cases v with
  | imm t' x=>exact (hi t' x rfl).elim
  | nilS=>exact (hc:LeafC β hp w N (.list u) _ cs).2
  | own id ver=>exact (hc:LeafC β hp w N (.list u) _ cs).2
  | nilP=>exact (hc:LeafC β hp w N (.list u) _ cs).2
  | ptr a b c d=>exact (hc:LeafC β hp w N (.list u) _ cs).2
  | mph a=>exact (hc:LeafC β hp w N (.list u) _ cs).2
  | _=>exact (hc:False).elim
 ·cases v with
  | imm t' x=>exact (hi t' x rfl).elim
  | nilS=>exact (hc:LeafC β hp w N .opq _ cs).2
  | own id ver=>exact (hc:LeafC β hp w N .opq _ cs).2
  | nilP=>exact (hc:LeafC β hp w N .opq _ cs).2
  | ptr a b c d=>exact (hc:LeafC β hp w N .opq _ cs).2
  | mph a=>exact (hc:LeafC β hp w N .opq _ cs).2
  | _=>exact (hc:False).elim
end Ev
end Go.Proofs.YtlfcdmibknmjeaaGreatDoor
namespace Go.Proofs.YtlfcdmibknmjeaaGreatDoor
namespace Ev
open Go Go.RowKit
variable {P:Program} {G:List GV} {α:Type} {E:Entry} {fr hp:List SV} {tm:Array Value} {w:World} {β:Nat→BI} {N:Reg} {r:α × List SV × List SV} {ρ:Nat→Nat}
theorem CR.novs {t:Ty} {v:SV} {vs:List SV} {cs:List Value} (h:CR β hp w N t false v vs cs):CR β hp w N t false v [] cs:=by cases t <;> cases v <;> exact h
theorem capC:∀ (sh:Sh) (tl:Bool) (v:SV) (vs:List SV) (k:Tup sh.tys→Acc P G α) (hp:List SV) (N:Reg) (t:Ty) (cs:List Value),Sim G E fr hp tm w β N→fitSh sh t tl=true→run (capSh ρ sh tl v vs k) fr hp=some r→CR β hp w N t tl v vs cs →
 ∃ hp' N' x,Gh G E fr hp tm w β N hp' N'∧HC ρ β hp' w N' sh x t tl cs∧run (k x) fr hp'=some r:=by
 have leaf:∀ (sh:Sh) (v:SV) (k:Tup sh.tys→Acc P G α) (hp:List SV) (N:Reg) (t:Ty) (cs:List Value),Sim G E fr hp tm w β N→((∃ u,t=.list u) ∨ t=.opq)→(∀ t,sh ≠ .imm t)→(∀ t c,sh ≠ .agg t c)→(∀ t' x,v ≠ .imm t' x) →
  run (capSh ρ sh false v [] k) fr hp=some r→CR β hp w N t false v [] cs→∃ x c,cs=[c]∧HL ρ β hp w N sh x c∧run (k x) fr hp=some r:=by
  intro sh v k hp N t cs _ ht h1 h2 h3 hr hc
  obtain ⟨c,rfl,hl⟩:=leafLR hc ht h3
  obtain ⟨x,hx,hr⟩:=capL sh v c k h1 h2 hr hl
  exact ⟨x,c,rfl,hx,hr⟩
 have noImm:∀ (sh:Sh) (v:SV) (k:Tup sh.tys→Acc P G α) (hp:List SV),(∀ t,sh ≠ .imm t)→(∀ t c,sh ≠ .agg t c)→run (capSh ρ sh false v [] k) fr hp=some r→∀ t' x,v ≠ .imm t' x:=by
  intro sh v k hp h1 h2 hr t' x e
  subst e
  cases sh with
  | imm t=>exact h1 t rfl
  | agg t c=>exact h2 t c rfl
  | _=>exact fail_elim hr
 have isList:∀ {t:Ty},(match t with | .list _=>true | _=>false)=true→∃ u,t=.list u:=by
  intro t h
  cases t with
  | list u=>exact ⟨u,rfl⟩
  | _=>cases h
 have isOpq:∀ {t:Ty},(match t with | .opq=>true | _=>false)=true→t=.opq:=by
  intro t h
  cases t with
  | opq=>rfl
  | _=>cases h
 intro sh
 induction sh with
 | imm t' =>
  intro tl v vs k hp N t cs h hf hr hc
  cases tl with
  | true=>exact fail_elim hr
  | false =>
   have e:t'=t:=by simpa [fitSh] using hf
   subst e
   obtain ⟨hp',N',x,g,hx,hr⟩:=convA_elim t' false v [] cs k hp N h hr hc.novs
   exact ⟨hp',N',x,g,⟨rfl,hx⟩,hr⟩
 | nilS =>
  intro tl v vs k hp N t cs h hf hr hc
  cases tl with
  | true=>exact fail_elim hr
  | false =>
   obtain ⟨u,rfl⟩:=isList hf
   obtain ⟨x,c,e,hx,hr⟩:=leaf .nilS v k hp N (.list u) cs h (.inl ⟨u,rfl⟩) (by simp) (by simp) (noImm .nilS v k hp (by simp) (by simp) hr) hr hc
   exact ⟨hp,N,x,Gh.refl h,⟨⟨u,rfl⟩,c,e,hx⟩,hr⟩
 | own id s e' t' =>
  intro tl v vs k hp N t cs h hf hr hc
  cases tl with
  | true=>exact fail_elim hr
  | false =>
   obtain ⟨u,rfl⟩:=isList hf
   obtain ⟨x,c,e,hx,hr⟩:=leaf (.own id s e' t') v k hp N (.list u) cs h (.inl ⟨u,rfl⟩) (by simp) (by simp) (noImm (.own id s e' t') v k hp (by simp) (by simp) hr) hr hc
   exact ⟨hp,N,x,Gh.refl h,⟨⟨u,rfl⟩,c,e,hx⟩,hr⟩
 | alias id =>
  intro tl v vs k hp N t cs h hf hr hc
  cases tl with
  | true=>exact fail_elim hr
  | false =>
   obtain ⟨u,rfl⟩:=isList hf
   obtain ⟨x,c,e,hx,hr⟩:=leaf (.alias id) v k hp N (.list u) cs h (.inl ⟨u,rfl⟩) (by simp) (by simp) (noImm (.alias id) v k hp (by simp) (by simp) hr) hr hc
   exact ⟨hp,N,x,Gh.refl h,⟨⟨u,rfl⟩,c,e,hx⟩,hr⟩
 | ptr id path t' =>
  intro tl v vs k hp N t cs h hf hr hc
  cases tl with
  | true=>exact fail_elim hr
  | false =>
   have e0:=isOpq hf
   subst e0
   obtain ⟨x,c,e,hx,hr⟩:=leaf (.ptr id path t') v k hp N .opq cs h (.inr rfl) (by simp) (by simp) (noImm (.ptr id path t') v k hp (by simp) (by simp) hr) hr hc
   exact ⟨hp,N,x,Gh.refl h,⟨rfl,c,e,hx⟩,hr⟩
 | mp id kt vt =>
  intro tl v vs k hp N t cs h hf hr hc
  cases tl with
  | true=>exact fail_elim hr
  | false =>
   have e0:=isOpq hf
   subst e0
   obtain ⟨x,c,e,hx,hr⟩:=leaf (.mp id kt vt) v k hp N .opq cs h (.inr rfl) (by simp) (by simp) (noImm (.mp id kt vt) v k hp (by simp) (by simp) hr) hr hc
   exact ⟨hp,N,x,Gh.refl h,⟨rfl,c,e,hx⟩,hr⟩
 | malias id =>
  intro tl v vs k hp N t cs h hf hr hc
  cases tl with
  | true=>exact fail_elim hr
  | false =>
   have e0:=isOpq hf
   subst e0
   obtain ⟨x,c,e,hx,hr⟩:=leaf (.malias id) v k hp N .opq cs h (.inr rfl) (by simp) (by simp) (noImm (.malias id) v k hp (by simp) (by simp) hr) hr hc
   exact ⟨hp,N,x,Gh.refl h,⟨rfl,c,e,hx⟩,hr⟩
 | nilP =>
  intro tl v vs k hp N t cs h hf hr hc
  cases tl with
  | true=>exact fail_elim hr
  | false =>
   have e0:=isOpq hf
   subst e0
   obtain ⟨x,c,e,hx,hr⟩:=leaf .nilP v k hp N .opq cs h (.inr rfl) (by simp) (by simp) (noImm .nilP v k hp (by simp) (by simp) hr) hr hc
   exact ⟨hp,N,x,Gh.refl h,⟨rfl,c,e,hx⟩,hr⟩
 | fn f =>
  intro tl v vs k hp N t cs h hf hr hc
  cases tl <;> cases hf
 | iptr t' =>
  intro tl v vs k hp N t cs h hf hr hc
  cases tl <;> cases hf
 | agg t' c ih =>
  intro tl v vs k hp N t cs h hf hr hc
  cases tl with
  | true=>exact fail_elim hr
  | false =>
   simp only [fitSh,Bool.and_eq_true,decide_eq_true_eq] at hf
   obtain ⟨⟨e,hag⟩,hf⟩:=hf
   subst e
   cases v with
   | agg t0 ws =>
    obtain ⟨e,hr1⟩:=eqA_elim (show run (eqA t0 t' (capSh ρ c true .none ws k)) fr hp=some r from hr)
    subst e
    obtain ⟨hp',N',x,g,hx,hr⟩:=ih true .none ws k hp N t0 cs h hf hr1 hc.novs.agg_inv.2.2
    exact ⟨hp',N',x,g,⟨rfl,hag,hx⟩,hr⟩
   | imm t0 y =>
    obtain ⟨e,hr1⟩:=eqA_elim (show run (eqA t0 t' (partsA t0 y fun vs=>capSh ρ c true .none vs k)) fr hp=some r from hr)
    subst e
    obtain ⟨ws,hw,hr2⟩:=partsA_elim (β:=β) t0 y cs _ hr1 hc.novs.imm_inv.2
    obtain ⟨hp',N',x,g,hx,hr⟩:=ih true .none ws k hp N t0 cs h hf hr2 hw
    exact ⟨hp',N',x,g,⟨rfl,hag,hx⟩,hr⟩
   | _=>exact fail_elim hr
 | acons a b iha ihb =>
  intro tl v vs k hp N t cs h hf hr hc
  cases tl with
  | false=>exact fail_elim hr
  | true =>
   cases vs with
   | nil=>exact fail_elim hr
   | cons v0 vs =>
    cases t with
    | pair ta tb =>
     simp only [fitSh,Bool.and_eq_true] at hf
     obtain ⟨c1,c2,e,h1,h2⟩:=(hc:∃ c1 c2,cs=c1 ++ c2∧CR β hp w N ta false v0 [] c1∧CR β hp w N tb true .none vs c2)
     obtain ⟨hp1,N1,x,g1,hx,hr1⟩:=iha false v0 [] _ hp N ta c1 h hf.1 hr h1
     obtain ⟨hp2,N2,y,g2,hy,hr2⟩:=ihb true .none vs _ hp1 N1 tb c2 g1.sim hf.2 hr1 (CR.later g1.later g1.ext _ _ _ _ _ h2)
     refine ⟨hp2,N2,_,g1.trans g2,⟨ta,tb,c1,c2,rfl,e,?_,?_⟩,hr2⟩
     ·rw [fst_app];exact HC.gh g2 a x ta false c1 hx
     ·rw [snd_app];exact hy
    | _=>cases hf
 | anil =>
  intro tl v vs k hp N t cs h hf hr hc
  cases tl with
  | false=>exact fail_elim hr
  | true =>
   cases vs with
   | cons v0 vs=>exact fail_elim hr
   | nil =>
    cases t with
    | unit =>
     obtain ⟨_,rfl⟩:=(hc:([]:List SV)=[]∧cs=[])
     exact ⟨hp,N,(),Gh.refl h,⟨rfl,rfl⟩,hr⟩
    | _=>cases hf
theorem capV (h:Sim G E fr hp tm w β N) (sh:Sh) (v:SV) (u:Value) (k:Tup sh.tys→Acc P G α) (hf:∀ t c,sh=.agg t c→fitSh (.agg t c) t false=true) (hr:run (capSh ρ sh false v [] k) fr hp=some r) (hv:VR β hp w N v u) :
 ∃ hp' N' x,Gh G E fr hp tm w β N hp' N'∧HV ρ β hp' w N' sh x u∧run (k x) fr hp'=some r:=by
 have leaf:(∀ t,sh ≠ .imm t)→(∀ t c,sh ≠ .agg t c)→∃ x,HL ρ β hp w N sh x u∧run (k x) fr hp=some r:=by
  intro h1 h2
  refine capL sh v u k h1 h2 hr ?_
  cases sh with
  | imm t=>exact (h1 t rfl).elim
  | agg t c=>exact (h2 t c rfl).elim
  | acons a b=>exact fail_elim hr
  | anil=>exact fail_elim hr
  | _=>cases v with
   | imm t x=>exact fail_elim hr
   | agg t x=>exact fail_elim hr
   | tup vs=>exact fail_elim hr
   | row a b c d e=>exact fail_elim hr
   | none=>exact fail_elim hr
   | _=>exact hv
 cases sh with
 | imm t =>
  obtain ⟨hp',N',x,g,hx,hr⟩:=immA_elim h hr hv
  exact ⟨hp',N',x,g,hx,hr⟩
 | agg t c =>
  have hf:=hf t c rfl
  have hag:t.isAgg=true:=by simp only [fitSh,Bool.and_eq_true] at hf;exact hf.1.2
  cases v with
  | agg t0 ws =>
   obtain ⟨cs,e,hc⟩:=(hv:∃ cs,u=.agg cs.toArray∧CR β hp w N t0 false (.agg t0 ws) [] cs)
   obtain ⟨e0,_⟩:=eqA_elim (show run (eqA t0 t (capSh ρ c true .none ws k)) fr hp=some r from hr)
   subst e0
   obtain ⟨hp',N',x,g,hx,hr⟩:=capC (.agg t0 c) false _ [] k hp N t0 cs h hf hr hc
   exact ⟨hp',N',x,g,⟨cs,e,hx⟩,hr⟩
  | imm t0 y =>
   obtain ⟨cs,hy,e⟩:=(hv:IsImm w N t0 y u)
   obtain ⟨e0,_⟩:=eqA_elim (show run (eqA t0 t (partsA t0 y fun vs=>capSh ρ c true .none vs k)) fr hp=some r from hr)
   subst e0
   obtain ⟨hp',N',x,g,hx,hr⟩:=capC (.agg t0 c) false _ [] k hp N t0 cs h hf hr (CR.of_imm t0 hy)
   exact ⟨hp',N',x,g,⟨cs,by rw [e];unfold valOf;rw [hag],hx⟩,hr⟩
  | _=>exact fail_elim hr
 | acons a b=>exact fail_elim hr
 | anil=>exact fail_elim hr
 | nilS=>obtain ⟨x,hx,hr⟩:=leaf (by simp) (by simp);exact ⟨hp,N,x,Gh.refl h,hx,hr⟩
 | own id s e t=>obtain ⟨x,hx,hr⟩:=leaf (by simp) (by simp);exact ⟨hp,N,x,Gh.refl h,hx,hr⟩
 | alias id=>obtain ⟨x,hx,hr⟩:=leaf (by simp) (by simp);exact ⟨hp,N,x,Gh.refl h,hx,hr⟩
 | ptr id p t=>obtain ⟨x,hx,hr⟩:=leaf (by simp) (by simp);exact ⟨hp,N,x,Gh.refl h,hx,hr⟩
 | iptr t=>obtain ⟨x,hx,hr⟩:=leaf (by simp) (by simp);exact ⟨hp,N,x,Gh.refl h,hx,hr⟩
 | mp id kt vt=>obtain ⟨x,hx,hr⟩:=leaf (by simp) (by simp);exact ⟨hp,N,x,Gh.refl h,hx,hr⟩
 | malias id=>obtain ⟨x,hx,hr⟩:=leaf (by simp) (by simp);exact ⟨hp,N,x,Gh.refl h,hx,hr⟩
 | nilP=>obtain ⟨x,hx,hr⟩:=leaf (by simp) (by simp);exact ⟨hp,N,x,Gh.refl h,hx,hr⟩
 | fn f=>obtain ⟨x,hx,hr⟩:=leaf (by simp) (by simp);exact ⟨hp,N,x,Gh.refl h,hx,hr⟩
end Ev
end Go.Proofs.YtlfcdmibknmjeaaGreatDoor
namespace Go.Proofs.YtlfcdmibknmjeaaGreatDoor
namespace Ev
open Go Go.RowKit
variable {P:Program} {G:List GV} {α:Type} {E:Entry} {fr hp:List SV} {tm:Array Value} {w:World} {β:Nat→BI} {N:Reg} {r:α × List SV × List SV} {ρ:Nat→Nat} {R:Ren}
theorem ItmH.gh {hp':List SV} {N':Reg} (g:Gh G E fr hp tm w β N hp' N') {tv:Array Value} (m:Itm) (x:Tup m.sh.tys) (h:ItmH ρ β hp w N tv m x):ItmH ρ β hp' w N' tv m x:=by
 unfold ItmH at *
 cases hb:m.box with
 | false=>rw [hb] at h;exact HV.gh g _ _ _ h
 | true =>
  rw [hb] at h
  obtain ⟨h1,cs,e,h2,h3⟩:=h
  refine ⟨?_,cs,e,h2,HC.gh g _ _ _ _ _ h3⟩
  rcases g.shd (ρ m.i) with k | ⟨v',s',e',t',xs',k1,k2⟩
  ·rw [k];exact h1
  ·rw [k1] at h1;exact h1.elim
theorem box_fit {sh:Sh} {v:SV} {t:Ty} {cs:List Value} {k:Tup sh.tys→Acc P G α} (hr:run (capSh ρ sh false v [] k) fr hp=some r) (hc:CR β hp w N t false v [] cs) (ho:okBox sh v=true) (hf:∀ t c,sh=.agg t c→fitSh (.agg t c) t false=true):fitSh sh t false=true:=by
 have list:∀ (id ver:Nat),CR β hp w N t false (.own id ver) [] cs→∃ u,t=.list u:=by
  intro id ver h
  cases t with
  | list u=>exact ⟨u,rfl⟩
  | _=>exact (h.1:∃ u,_=Ty.list u)
 have list2:CR β hp w N t false .nilS [] cs→∃ u,t=.list u:=by
  intro h
  cases t with
  | list u=>exact ⟨u,rfl⟩
  | _=>exact (h.1:∃ u,_=Ty.list u)
 cases sh with
 | imm t' =>
  cases v with
  | imm t0 y =>
   obtain ⟨e,_⟩:=castA_elim (show run (castA t0 t' y k) fr hp=some r by cases t' <;> exact hr)
   obtain ⟨e2,_⟩:=hc.imm_inv
   simp [fitSh,← e,e2]
  | agg t0 ws =>
   have e:t0=t':=by
    cases t' with
    | pair a b =>
     simp only [capSh,immA,convA] at hr;split at hr
     ·rename_i e;exact e
     ·exact fail_elim hr
    | unit =>
     simp only [capSh,immA,convA] at hr;split at hr
     ·rename_i e;exact e
     ·exact fail_elim hr
    | _=>exact fail_elim hr
   simp [fitSh,← e,hc.agg_inv.1]
  | _=>cases ho
 | nilS =>
  cases v with
  | nilS=>obtain ⟨u,rfl⟩:=list2 hc;rfl
  | _=>exact fail_elim hr
 | own id s e t' =>
  cases v with
  | nilS=>obtain ⟨u,rfl⟩:=list2 hc;rfl
  | own id ver=>obtain ⟨u,rfl⟩:=list _ _ hc;rfl
  | _=>exact fail_elim hr
 | alias id =>
  cases v with
  | own id ver=>obtain ⟨u,rfl⟩:=list _ _ hc;rfl
  | _=>exact fail_elim hr
 | ptr id p t' =>
  cases v with
  | ptr id ver p' t0 =>
   have:t=.opq:=by
    cases t with
    | opq=>rfl
    | _=>exact (hc.1:_=Ty.opq)
   subst this;rfl
  | _=>exact fail_elim hr
 | iptr t' =>
  cases v with
  | iptr t0 x=>exact (by cases t <;> exact (hc:False).elim)
  | _=>exact fail_elim hr
 | fn f =>
  cases v with
  | fn g=>exact (by cases t <;> exact (hc:False).elim)
  | _=>exact fail_elim hr
 | mp id kt vt =>
  cases v with
  | mph id =>
   have:t=.opq:=by
    cases t with
    | opq=>rfl
    | _=>exact (hc.1:_=Ty.opq)
   subst this;rfl
  | _=>exact fail_elim hr
 | nilP =>
  cases v with
  | nilP =>
   have:t=.opq:=by
    cases t with
    | opq=>rfl
    | _=>exact (hc.1:_=Ty.opq)
   subst this;rfl
  | _=>exact fail_elim hr
 | malias id =>
  cases v with
  | mph id =>
   have:t=.opq:=by
    cases t with
    | opq=>rfl
    | _=>exact (hc.1:_=Ty.opq)
   subst this;rfl
  | _=>exact fail_elim hr
 | agg t' c =>
  have h2:=hf t' c rfl
  cases v with
  | agg t0 ws =>
   obtain ⟨e,_⟩:=eqA_elim (show run (eqA t0 t' (capSh ρ c true .none ws k)) fr hp=some r from hr)
   rw [e,] at hc
   rw [← hc.agg_inv.1];exact h2
  | imm t0 y =>
   obtain ⟨e,_⟩:=eqA_elim (show run (eqA t0 t' (partsA t0 y fun vs=>capSh ρ c true .none vs k)) fr hp=some r from hr)
   subst e
   rw [← hc.imm_inv.1];exact h2
  | _=>exact fail_elim hr
 | acons a b=>exact fail_elim hr
 | anil=>exact fail_elim hr
theorem shOk_fit {nh:Nat} {sh:Sh} {d:List Nat} (h:shOk R nh sh d=true):∀ t c,sh=.agg t c→fitSh (.agg t c) t false=true:=by
 rintro t c rfl
 simp only [shOk,Bool.and_eq_true] at h
 exact h.1
theorem sigOk_tail {nh:Nat} {m:Itm} {l:Sig} {d s:List Nat} (h:sigOk R nh (m :: l) d s=true):shOk R nh m.sh d=true∧∃ d' s',sigOk R nh l d' s'=true:=by
 simp only [sigOk,Bool.and_eq_true] at h
 refine ⟨h.1,?_⟩
 have h2:=h.2
 cases hb:m.box with
 | false=>rw [hb] at h2;simp only [Bool.and_eq_true] at h2;exact ⟨_,_,h2.2⟩
 | true=>rw [hb] at h2;simp only [Bool.and_eq_true] at h2;exact ⟨_,_,h2.2⟩
theorem cap_box (h:Sim G E fr hp tm w β N) {i:Nat} {sh:Sh} {k:Tup sh.tys→Acc P G α} (hf:∀ t c,sh=.agg t c→fitSh (.agg t c) t false=true) (hbx:okBox sh (nth hp (ρ i))=true) (hr:run (capSh ρ sh false (nth hp (ρ i)) [] k) fr hp=some r) (tv:Array Value) :
 ∃ hp' N' x,Gh G E fr hp tm w β N hp' N'∧ItmH ρ β hp' w N' tv ⟨true,i,sh⟩ x∧run (k x) fr hp'=some r:=by
 have hb:=h.box (ρ i)
 have bad:∀ v,nth hp (ρ i)=v→(match v with | .none=>True | .dead _=>True | .row _ _ _ _ _=>True | .mp _ _ _=>True | _=>False)→False:=by
  intro v hv hm
  rw [hv] at hr hbx
  cases v with
  | none=>cases sh with
   | imm t=>cases hbx
   | _=>exact fail_elim hr
  | row a b c d e=>cases sh with
   | imm t=>cases hbx
   | _=>exact fail_elim hr
  | mp a b c=>cases sh with
   | imm t=>cases hbx
   | _=>exact fail_elim hr
  | dead a=>cases sh with
   | imm t=>cases hbx
   | _=>exact fail_elim hr
  | _=>exact hm
 have cell:IsCell (nth hp (ρ i)):=by
  cases hv:nth hp (ρ i) with
  | none=>exact (bad _ hv trivial).elim
  | row a b c d e=>exact (bad _ hv trivial).elim
  | mp a b c=>exact (bad _ hv trivial).elim
  | dead a=>exact (bad _ hv trivial).elim
  | _=>exact True.intro
 have hbr:∃ cs e,w.heap[(β (ρ i)).blk]?=some (.cells cs.toArray e (0,0))∧CR β hp w N (β (ρ i)).bt false (nth hp (ρ i)) [] cs∧∀ o,¬ N (β (ρ i)).blk o:=by
  cases hv:nth hp (ρ i) with
  | none=>rw [hv] at cell;exact cell.elim
  | row a b c d e=>rw [hv] at cell;exact cell.elim
  | mp a b c=>rw [hv] at cell;exact cell.elim
  | dead a=>rw [hv] at cell;exact cell.elim
  | _=>rw [hv] at hb;exact hb
 obtain ⟨cs,e,h1,h2,_⟩:=hbr
 obtain ⟨hp1,N1,x,g,hx,hr2⟩:=capC sh false _ [] _ hp N (β (ρ i)).bt cs h (box_fit hr h2 hbx hf) hr h2
 refine ⟨hp1,N1,x,g,⟨?_,cs,e,h1,hx⟩,hr2⟩
 rcases g.shd (ρ i) with k | ⟨v',s',e',t',xs',k1,k2⟩
 ·show IsCell (nth hp1 (ρ i));rw [k];exact cell
 ·rw [k1] at cell;exact cell.elim
theorem capG_elim {nh:Nat} {vs:List SV} {tv:Array Value}:∀ (sg:Sig) (d s:List Nat) (k:Tup (sigTys sg)→Acc P G α) (hp:List SV) (N:Reg),Sim G E fr hp tm w β N→(∀ i,VR β hp w N (nth vs i) (tv.getD i undef))→sigOk R nh sg d s=true→run (capG ρ vs sg k) fr hp=some r →
 ∃ hp' N' x,Gh G E fr hp tm w β N hp' N'∧SigH ρ β hp' w N' tv sg x∧run (k x) fr hp'=some r
 | [],_,_,k,hp,N,h,_,_,hr=>⟨hp,N,(),Gh.refl h,trivial,hr⟩
 | ⟨b,i,sh⟩ :: l,d,s,k,hp,N,h,hv,ho,hr=>by
  obtain ⟨hsh,d',s',ho'⟩:=sigOk_tail ho
  have one:∃ hp1 N1 x,Gh G E fr hp tm w β N hp1 N1∧ItmH ρ β hp1 w N1 tv ⟨b,i,sh⟩ x∧run (capG ρ vs l fun y=>k (appT sh.tys x y)) fr hp1=some r:=by
   cases b with
   | false=>exact capV h sh _ _ _ (shOk_fit hsh) hr (hv i)
   | true =>
    simp only [capG,run,if_true] at hr
    obtain ⟨hbx,hr1⟩:=cond_fail hr
    exact cap_box h (shOk_fit hsh) hbx hr1 tv
  obtain ⟨hp1,N1,x,g1,hx,hr2⟩:=one
  obtain ⟨hp2,N2,y,g2,hy,hr3⟩:=capG_elim l d' s' _ hp1 N1 g1.sim (fun i=>VR.later g1.later g1.ext (hv i)) ho' hr2
  refine ⟨hp2,N2,_,g1.trans g2,⟨?_,?_⟩,hr3⟩
  ·rw [fst_app];exact hx.gh g2
  ·rw [snd_app];exact hy
theorem capF_elim {nh:Nat}:∀ (sg:Sig) (d s:List Nat) (k:Tup (sigTys sg)→Acc P G α) (hp:List SV) (N:Reg),Sim G E fr hp tm w β N→sigOk R nh sg d s=true→run (capF ρ sg k) fr hp=some r →
 ∃ hp' N' x,Gh G E fr hp tm w β N hp' N'∧SigH ρ β hp' w N' tm sg x∧run (k x) fr hp'=some r
 | [],_,_,k,hp,N,h,_,hr=>⟨hp,N,(),Gh.refl h,trivial,hr⟩
 | ⟨b,i,sh⟩ :: l,d,s,k,hp,N,h,ho,hr=>by
  obtain ⟨hsh,d',s',ho'⟩:=sigOk_tail ho
  have one:∃ hp1 N1 x,Gh G E fr hp tm w β N hp1 N1∧ItmH ρ β hp1 w N1 tm ⟨b,i,sh⟩ x∧run (capF ρ l fun y=>k (appT sh.tys x y)) fr hp1=some r:=by
   cases b with
   | false =>
    simp only [capF,run] at hr
    exact capV h sh _ _ _ (shOk_fit hsh) hr (h.slot i)
   | true =>
    simp only [capF,run,if_true] at hr
    obtain ⟨hbx,hr1⟩:=cond_fail hr
    exact cap_box h (shOk_fit hsh) hbx hr1 tm
  obtain ⟨hp1,N1,x,g1,hx,hr2⟩:=one
  obtain ⟨hp2,N2,y,g2,hy,hr3⟩:=capF_elim l d' s' _ hp1 N1 g1.sim ho' hr2
  refine ⟨hp2,N2,_,g1.trans g2,⟨?_,?_⟩,hr3⟩
  ·rw [fst_app];exact hx.gh g2
  ·rw [snd_app];exact hy
theorem ownA_elim {k:Acc P G α}:∀ (l:List Nat),run (ownA ρ l k) fr hp=some r→OwnF hp (l.map ρ)∧run k fr hp=some r
 | [],hr=>⟨fun _ h=>(by cases h),hr⟩
 | id :: l,hr=>by
  have go:∀ (_:nth hp (ρ id)=.none ∨ (∃ v,nth hp (ρ id)=.dead v) ∨ ∃ v e t xs,nth hp (ρ id)=.row v false e t xs) (_:run (ownA ρ l k) fr hp=some r),OwnF hp ((id :: l).map ρ)∧run k fr hp=some r:=by
   intro h0 hr
   obtain ⟨h1,h2⟩:=ownA_elim l hr
   exact ⟨fun i hi=>by
    rcases List.mem_cons.1 hi with rfl | hi
    ·exact h0
    ·exact h1 i hi,h2⟩
  simp only [ownA,run,if_true] at hr
  split at hr
  ·rename_i hb;exact go (.inl hb) hr
  ·rename_i v hb;exact go (.inr (.inl ⟨v,hb⟩)) hr
  ·rename_i v sh e t xs hb
   cases sh with
   | true=>exact fail_elim hr
   | false=>exact go (.inr (.inr ⟨v,e,t,xs,hb⟩)) hr
  ·exact fail_elim hr
end Ev
end Go.Proofs.YtlfcdmibknmjeaaGreatDoor
namespace Go.Proofs.YtlfcdmibknmjeaaGreatDoor
namespace Ev
open Go Go.RowKit
variable {P:Program} {G:List GV} {α:Type} {E:Entry} {fr hp:List SV} {tm tm2:Array Value} {w:World} {β:Nat→BI} {N:Reg} {r:α × List SV × List SV} {nh:Nat}
structure View (R:Ren) (tm:Array Value) (w:World) (β:Nat→BI) (N:Reg) (hp fr' hp':List SV) (β':Nat→BI) (done:List Nat) (nh:Nat):Prop where
 lf:fr'.length=tm.size
 lh:hp'.length=nh
 slot:∀ i,VR β' hp' w N (nth fr' i) (tm.getD i undef)
 box:∀ id,BR β' hp' w N id (nth hp' id)
 blk:∀ t b,blkOf β' hp' t=some b→∃ s,hasN done s=true∧R.σ s=t∧blkOf β hp (R.ρ s)=some b
 dn:∀ t,(∀ s,hasN done s=true→R.σ s ≠ t)→nth hp' t=.none
 row:∀ s,hasN done s=true→nth hp' (R.σ s) ≠ .none∧(∀ v sh e t xs,nth hp (R.ρ s)=.row v sh e t xs→kindB (nth hp' (R.σ s))=1∧bver (nth hp' (R.σ s))=R.ν s∧β' (R.σ s)=β (R.ρ s)) ∧
  (IsCell (nth hp (R.ρ s))→β' (R.σ s)=β (R.ρ s)∧IsCell (nth hp' (R.σ s)))∧(∀ kt vt l,nth hp (R.ρ s)=.mp kt vt l→β' (R.σ s)=β (R.ρ s)∧kindB (nth hp' (R.σ s))=2)
 inj:∀ s s',hasN done s=true→hasN done s'=true→R.ρ s=R.ρ s'→s=s'
theorem View.apart {R:Ren} {fr' hp':List SV} {β':Nat→BI} {done:List Nat} (v:View R tm w β N hp fr' hp' β' done nh) (h:Sim G E fr hp tm2 w β N) (i j b:Nat) (hi:blkOf β' hp' i=some b) (hj:blkOf β' hp' j=some b):i=j:=by
 obtain ⟨s,s1,s2,s3⟩:=v.blk i b hi
 obtain ⟨t,t1,t2,t3⟩:=v.blk j b hj
 rw [← s2,← t2,v.inj s t s1 t1 (h.apart _ _ _ s3 t3)]
theorem kind_cell {b:SV} (h:IsCell b):kindB b=3:=by
 cases b with
 | none=>exact h.elim
 | row a b c d e=>exact h.elim
 | mp a b c=>exact h.elim
 | dead a=>exact h.elim
 | _=>rfl
theorem kind_3 {b:SV} (h:kindB b=3):IsCell b:=by
 cases b <;> simp [kindB] at h <;> exact True.intro
theorem View.sim {R:Ren} (hσ:R.σ=fun i=>i) {fr' hp':List SV} {β':Nat→BI} {done:List Nat} (v:View R tm w β N hp fr' hp' β' done nh) (h:Sim G E fr hp tm w β N) (hpn:∀ i x,E.pin i=some x→hasN done i=true∧R.ρ i=i):Sim G E fr' hp' tm w β' N :=
 ⟨v.lf.symm,v.slot,v.box,v.apart h,fun i b hi=>(by obtain ⟨s,_,_,k⟩:=v.blk i b hi;exact h.bnd (R.ρ s) b k),h.os,h.tape,h.output,h.size,h.frame,h.keep,h.new,h.ok,h.glob,fun i x hx=>by
  obtain ⟨h1,h2,h3⟩:=h.pin i x hx
  obtain ⟨p1,p2⟩:=hpn i x hx
  obtain ⟨_,_,k2,k3⟩:=v.row i p1
  rw [hσ,p2] at k2 k3
  have:x.2=2 ∨ x.2=3:=by
   have hk:kindB (nth hp i) ≤ 3:=(by cases nth hp i <;> simp [kindB])
   rw [h2] at hk
   omega
  rcases this with e | e
  ·obtain ⟨kt,vt,l,hm⟩:=kind_mp (h2.trans e)
   obtain ⟨e1,e2⟩:=k3 kt vt l hm
   exact ⟨h1,by rw [e];exact e2,e1.trans h3⟩
  ·obtain ⟨e1,e2⟩:=k2 (kind_3 (h2.trans e))
   exact ⟨h1,by rw [e];exact kind_cell e2,e1.trans h3⟩⟩
theorem hasN_cons {x n:Nat} {l:List Nat}:hasN (x :: l) n=true ↔ x=n ∨ hasN l n=true:=by
 simp only [hasN,Bool.or_eq_true]
 exact ⟨fun h=>h.imp_left Nat.eq_of_beq_eq_true,fun h=>h.imp_left fun e=>by rw [e];exact Nat.beq_refl n⟩
theorem newId_ne {R:Ren} {id:Nat}:∀ (d:List Nat),newId R id d=true→∀ s,hasN d s=true→R.σ s ≠ R.σ id∧R.ρ s ≠ R.ρ id
 | [],_,s,h=>by cases h
 | x :: d,h,s,hs=>by
  simp only [newId,Bool.and_eq_true,Bool.not_eq_true'] at h
  rcases hasN_cons.1 hs with rfl | hs
  ·exact ⟨fun e=>by rw [e,Nat.beq_refl] at h;exact Bool.noConfusion h.1.1,fun e=>by rw [e,Nat.beq_refl] at h;exact Bool.noConfusion h.1.2⟩
  ·exact newId_ne d h.2 s hs
theorem View.add {R:Ren} {fr' hp':List SV} {β':Nat→BI} {done:List Nat} (v:View R tm w β N hp fr' hp' β' done nh) {id:Nat} {b:SV} {y:BI} (hin:R.σ id < nh) (hnew:newId R id done=true) (hb:b ≠ .none)
 (hbr:Later β' hp' (upd β' (R.σ id) y) (put hp' (R.σ id) b)→BR (upd β' (R.σ id) y) (put hp' (R.σ id) b) w N (R.σ id) b) (hblk:∀ g,blkB y b=some g→blkOf β hp (R.ρ id)=some g)
 (hrow:∀ v s e t xs,nth hp (R.ρ id)=.row v s e t xs→kindB b=1∧bver b=R.ν id∧y=β (R.ρ id)) (hcell:IsCell (nth hp (R.ρ id))→y=β (R.ρ id)∧IsCell b) (hmap:∀ kt vt l,nth hp (R.ρ id)=.mp kt vt l→y=β (R.ρ id)∧kindB b=2) :
 View R tm w β N hp fr' (put hp' (R.σ id) b) (upd β' (R.σ id) y) (id :: done) nh∧Later β' hp' (upd β' (R.σ id) y) (put hp' (R.σ id) b):=by
 have hin':R.σ id < hp'.length:=by rw [v.lh];exact hin
 have hne:=newId_ne done hnew
 have hno:=v.dn (R.σ id) (fun s hs=>(hne s hs).1)
 have hL:Later β' hp' (upd β' (R.σ id) y) (put hp' (R.σ id) b):=by
  intro i hi
  by_cases e:i=R.σ id
  ·subst e;exact (hi hno).elim
  ·rw [nth_put_ne _ _ _ _ (Ne.symm e),upd_ne β' y e]
   exact ⟨hi,.inr ⟨rfl,rfl,fun _=>rfl,rfl⟩⟩
 refine ⟨⟨v.lf,by rw [len_put];exact v.lh,fun i=>VR.later hL (Ext.refl _ _) (v.slot i),fun i=>?_,fun i g hg=>?_,fun i hi=>?_,fun i hi=>?_,fun s s' hs hs' e=>?_⟩,hL⟩
 ·by_cases e:i=R.σ id
  ·subst e;rw [nth_put_eq _ _ _ hin'];exact hbr hL
  ·rw [nth_put_ne _ _ _ _ (Ne.symm e)]
   exact BR.later hL (Ext.refl _ _) (upd_ne β' y e) (v.box i) (fun g _=>⟨rfl,fun _ ho=>ho⟩)
 ·by_cases e:i=R.σ id
  ·subst e
   unfold blkOf at hg
   rw [nth_put_eq _ _ _ hin',upd_eq] at hg
   exact ⟨id,hasN_cons.2 (.inl rfl),rfl,hblk g hg⟩
  ·unfold blkOf at hg
   rw [nth_put_ne _ _ _ _ (Ne.symm e),upd_ne β' y e] at hg
   obtain ⟨s,s1,s2,s3⟩:=v.blk i g hg
   exact ⟨s,hasN_cons.2 (.inr s1),s2,s3⟩
 ·rw [nth_put_ne _ _ _ _ (hi id (hasN_cons.2 (.inl rfl)))]
  exact v.dn i fun s hs=>hi s (hasN_cons.2 (.inr hs))
 ·rcases hasN_cons.1 hi with rfl | hi
  ·rw [nth_put_eq _ _ _ hin',upd_eq]
   exact ⟨hb,hrow,hcell,hmap⟩
  ·have e:=(hne i hi).1
   rw [nth_put_ne _ _ _ _ (Ne.symm e),upd_ne β' y e]
   exact v.row i hi
 ·rcases hasN_cons.1 hs with rfl | hs <;> rcases hasN_cons.1 hs' with rfl | hs'
  ·rfl
  ·exact ((hne s' hs').2 e.symm).elim
  ·exact ((hne s hs).2 e).elim
  ·exact v.inj s s' hs hs' e
theorem RowAt.true_ {e:TypeId} {t:Ty} {sh:Bool} {xs:List t.denote} {v:Value} (h:RowAt w N e t sh xs v):RowAt w N e t true xs v:=⟨h.1,fun g hg o ho=>⟨rfl,(h.2 g hg o ho).2⟩⟩
theorem RowAt.one {e:TypeId} {t:Ty} {sh:Bool} {xs:List t.denote} {v:Value} (h:RowAt w N e t sh xs v):v.oneCell'=true:=by
 obtain ⟨⟨css,_,_,hh⟩,_⟩:=h
 rcases hh.2 with ⟨rfl,_⟩ | ⟨g,cap,cur,rfl,_⟩ <;> rfl
theorem sub_own:∀ (sh:Sh) (l:List Nat) (i:Nat),i ∈ l→i ∈ shOwn sh l
 | .own id s _ _,l,i,h=>by cases s <;> simp [shOwn,h]
 | .agg _ c,l,i,h=>sub_own c l i h
 | .acons a b,l,i,h=>sub_own a _ i (sub_own b l i h)
 | .imm _,_,_,h=>h
 | .nilS,_,_,h=>h
 | .nilP,_,_,h=>h
 | .alias _,_,_,h=>h
 | .ptr _ _ _,_,_,h=>h
 | .iptr _,_,_,h=>h
 | .mp _ _ _,_,_,h=>h
 | .malias _,_,_,h=>h
 | .fn _,_,_,h=>h
 | .anil,_,_,h=>h
theorem OwnF.sub {ρ:Nat→Nat} {l l':List Nat} (h:OwnF hp (l'.map ρ)) (k:∀ i ∈ l,i ∈ l'):OwnF hp (l.map ρ):=fun i hi=>by
 obtain ⟨j,hj,rfl⟩:=List.mem_map.1 hi
 exact h _ (List.mem_map_of_mem (k j hj))
section
variable {γ:Type} {R:Ren}
theorem resL (h:Sim G E fr hp tm2 w β N) {fr' hp':List SV} {β':Nat→BI} {done l:List Nat} (v:View R tm w β N hp fr' hp' β' done nh):∀ (sh:Sh) (x:Tup sh.tys) (u:Value) (K:List SV→SV→List SV→γ) (z:γ),
 HL R.ρ β hp w N sh x u→shOk R nh sh done=true→OwnF hp ((shOwn sh l).map R.ρ)→resSh R.σ R.ν sh x hp' K=z →
 ∃ hp'' β'' sv vs,View R tm w β N hp fr' hp'' β'' (shDone sh done) nh∧Later β' hp' β'' hp''∧VR1 β'' hp'' w N sv u∧((∀ t,sh ≠ .imm t)→LR β'' hp'' w N sv u∧(match sh with | .ptr _ _ _=>∃ a b c d,sv=.ptr a b c d | .iptr _=>True | .fn _=>True | .nilS=>sv=.nilS | .nilP=>sv=.nilP | .mp _ _ _=>∃ a,sv=.mph a | .malias _=>∃ a,sv=.mph a | _=>∃ a b,sv=.own a b))∧K hp'' sv vs=z
 | .imm t,x,u,K,z,hl,_,_,hr=>⟨hp',β',.imm t x,[],v,Later.refl _ _,hl,fun h=>(h t rfl).elim,hr⟩
 | .nilS,x,u,K,z,hl,_,_,hr=>⟨hp',β',.nilS,[],v,Later.refl _ _,hl,fun _=>⟨hl,rfl⟩,hr⟩
 | .nilP,x,u,K,z,hl,_,_,hr=>⟨hp',β',.nilP,[],v,Later.refl _ _,hl,fun _=>⟨hl,rfl⟩,hr⟩
 | .fn f,x,u,K,z,hl,_,_,hr=>⟨hp',β',.fn f,[],v,Later.refl _ _,hl,fun _=>⟨hl,trivial⟩,hr⟩
 | .own id s e t,x,u,K,z,hl,ho,hw,hr=>by
  simp only [shOk,Bool.and_eq_true] at ho
  have hin:R.σ id < nh:=Nat.le_of_ble_eq_true ho.1
  simp only [resSh,putK_eq,forceN_eq] at hr
  have mk:∀ (y:BI),y.val=u→RowAt w N e t s x u→(∀ g,u.ownBlock=some g→y.blk=g)→(∀ g,u.ownBlock=some g→blkOf β hp (R.ρ id)=some g)→(∀ v s e t xs,nth hp (R.ρ id)=.row v s e t xs→y=β (R.ρ id))→¬ IsCell (nth hp (R.ρ id))→(∀ kt vt l,nth hp (R.ρ id) ≠ .mp kt vt l) →
   ∃ hp'' β'' sv vs,View R tm w β N hp fr' hp'' β'' (id :: done) nh∧Later β' hp' β'' hp''∧VR1 β'' hp'' w N sv u∧((∀ t',Sh.own id s e t ≠ .imm t')→LR β'' hp'' w N sv u∧∃ a b,sv=.own a b)∧K hp'' sv vs=z:=by
   intro y hy hrow hyb hblk hrr hnc hnm
   obtain ⟨v',hL⟩:=v.add (id:=id) (b:=.row (R.ν id) s e t x) (y:=y) hin ho.2 (by simp) (fun _=>⟨by rw [upd_eq,hy];exact hrow,by rw [upd_eq,hy];exact hyb⟩) (fun g hg=>hblk g (by rw [← hy];exact hg)) (fun a b c d e hx=>⟨rfl,rfl,hrr a b c d e hx⟩) (fun hc=>(hnc hc).elim) (fun a b c hx=>(hnm a b c hx).elim)
   have hlr:LR (upd β' (R.σ id) y) (put hp' (R.σ id) (.row (R.ν id) s e t x)) w N (.own (R.σ id) (R.ν id)) u :=
    (⟨by rw [nth_put_eq _ _ _ (by rw [v.lh];exact hin)];simp,by rw [nth_put_eq _ _ _ (by rw [v.lh];exact hin)];exact Nat.le_refl _,hrow.one,fun _ _ _ _ _=>by rw [upd_eq,hy]⟩ :
     nth (put hp' (R.σ id) (.row (R.ν id) s e t x)) (R.σ id) ≠ .none∧R.ν id ≤ bver (nth (put hp' (R.σ id) (.row (R.ν id) s e t x)) (R.σ id))∧u.oneCell'=true∧∀ sh' e' t' xs',nth (put hp' (R.σ id) (.row (R.ν id) s e t x)) (R.σ id)=.row (R.ν id) sh' e' t' xs'→u=(upd β' (R.σ id) y (R.σ id)).val)
   exact ⟨_,_,.own (R.σ id) (R.ν id),[],v',hL,hlr,fun _=>⟨hlr,_,_,rfl⟩,hr⟩
  rcases hl with ⟨ver,s',hrow,hu⟩ | ⟨hno,hx,hu⟩
  ·have hb:=h.box (R.ρ id)
   rw [hrow] at hb
   have hrow':RowAt w N e t s x u:=by
    rw [hu]
    cases s with
    | true=>exact hb.1.true_
    | false =>
     rcases hw (R.ρ id) (by simp [shOwn]) with k | ⟨_,k⟩ | ⟨_,_,_,_,k⟩
     ·rw [hrow] at k;cases k
     ·rw [hrow] at k;cases k
     ·rw [hrow] at k;cases k;exact hb.1
   exact mk (β (R.ρ id)) hu.symm hrow' (by rw [hu];exact hb.2) (fun g hg=>by unfold blkOf;rw [hrow,← hg,hu];rfl) (fun _ _ _ _ _ _=>rfl) (by rw [hrow];exact fun h=>h) (by rw [hrow];simp)
  ·subst hx
   subst hu
   exact mk ⟨0,.slice none 0 0,t⟩ rfl ((rowNil w e t).anySh s) (fun g hg=>by cases hg) (fun g hg=>by cases hg) (fun _ _ _ _ _ h=>by rcases hno with hno | ⟨_,hno⟩ <;> (rw [hno] at h;cases h)) (by rcases hno with hno | ⟨_,hno⟩ <;> (rw [hno];exact fun h=>h)) (by rcases hno with hno | ⟨_,hno⟩ <;> (rw [hno];simp))
 | .alias id,x,u,K,z,hl,ho,_,hr=>by
  obtain ⟨⟨vv,s,e,t,xs,hrow⟩,hu⟩:=hl
  simp only [resSh,forceN_eq] at hr
  obtain ⟨h1,h2,_,_⟩:=v.row id ho
  obtain ⟨_,h2,h3⟩:=h2 _ _ _ _ _ hrow
  have hb:=h.box (R.ρ id)
  rw [hrow] at hb
  have hlr:LR β' hp' w N (.own (R.σ id) (R.ν id)) u :=
   (⟨h1,by rw [h2];exact Nat.le_refl _,by rw [hu];exact hb.1.one,fun _ _ _ _ _=>by rw [h3];exact hu⟩:nth hp' (R.σ id) ≠ .none∧R.ν id ≤ bver (nth hp' (R.σ id))∧u.oneCell'=true∧∀ sh' e' t' xs',nth hp' (R.σ id)=.row (R.ν id) sh' e' t' xs'→u=(β' (R.σ id)).val)
  exact ⟨hp',β',.own (R.σ id) (R.ν id),[],v,Later.refl _ _,hlr,fun _=>⟨hlr,_,_,rfl⟩,hr⟩
 | .ptr id path t,x,u,K,z,hl,ho,_,hr=>by
  obtain ⟨hc,o,hp0,hu⟩:=hl
  simp only [resSh,forceN_eq] at hr
  obtain ⟨h1,_,h4,_⟩:=v.row id ho
  obtain ⟨e1,e2⟩:=h4 hc
  have hib:inBox (β' (R.σ id)).bt (nth hp' (R.σ id)) (path.map .fld)=pathOff (β (R.ρ id)).bt (path.map .fld):=by
   rw [e1]
   cases hb:nth hp' (R.σ id) with
   | none=>exact (h1 hb).elim
   | row a b c d e=>rw [hb] at e2;exact e2.elim
   | _=>rfl
  have hlr:LR β' hp' w N (.ptr (R.σ id) 0 (path.map .fld) t) u :=
   (⟨h1,Nat.zero_le _,⟨_,hu⟩,fun _=>⟨o,by rw [hib];exact hp0,by rw [e1];exact hu⟩⟩:nth hp' (R.σ id) ≠ .none∧0 ≤ bver (nth hp' (R.σ id))∧(∃ ad,u=.pointer (some ad))∧(0=bver (nth hp' (R.σ id))→∃ o,inBox (β' (R.σ id)).bt (nth hp' (R.σ id)) (path.map .fld)=some (o,t)∧u=.pointer (some ⟨(β' (R.σ id)).blk,o,none⟩)))
  exact ⟨hp',β',.ptr (R.σ id) 0 (path.map .fld) t,[],v,Later.refl _ _,hlr,fun _=>⟨hlr,_,_,_,_,rfl⟩,hr⟩
 | .mp id kt vt,x,u,K,z,hl,ho,_,hr=>by
  obtain ⟨hm,hu⟩:=hl
  simp only [shOk,Bool.and_eq_true] at ho
  have hin:R.σ id < nh:=Nat.le_of_ble_eq_true ho.1
  simp only [resSh,putK_eq,forceN_eq] at hr
  have hb:=h.box (R.ρ id)
  rw [hm] at hb
  obtain ⟨v',hL⟩:=v.add (id:=id) (b:=.mp kt vt x) (y:=β (R.ρ id)) hin ho.2 (by simp) (fun _=>by
   show MapAt w N kt vt x (upd β' (R.σ id) (β (R.ρ id)) (R.σ id)).blk
   rw [upd_eq];exact hb) (fun g hg=>by unfold blkOf;rw [hm];exact hg) (fun _ _ _ _ _ hx=>by rw [hm] at hx;cases hx) (fun hc=>by rw [hm] at hc;exact hc.elim) (fun _ _ _ _=>⟨rfl,rfl⟩)
  have hlr:LR (upd β' (R.σ id) (β (R.ρ id))) (put hp' (R.σ id) (.mp kt vt x)) w N (.mph (R.σ id)) u :=
   (⟨by rw [nth_put_eq _ _ _ (by rw [v.lh];exact hin)];simp,⟨_,hu⟩,fun _ _ _ _=>by rw [upd_eq];exact hu⟩:nth (put hp' (R.σ id) (.mp kt vt x)) (R.σ id) ≠ .none∧(∃ r,u=.map (some r))∧∀ k v l,nth (put hp' (R.σ id) (.mp kt vt x)) (R.σ id)=.mp k v l→u=.map (some (upd β' (R.σ id) (β (R.ρ id)) (R.σ id)).blk))
  exact ⟨_,_,.mph (R.σ id),[],v',hL,hlr,fun _=>⟨hlr,_,rfl⟩,hr⟩
 | .malias id,x,u,K,z,hl,ho,_,hr=>by
  obtain ⟨⟨kt,vt,l,hm⟩,hu⟩:=hl
  simp only [resSh,forceN_eq] at hr
  obtain ⟨h1,_,_,h4⟩:=v.row id ho
  obtain ⟨e1,e2⟩:=h4 _ _ _ hm
  have hlr:LR β' hp' w N (.mph (R.σ id)) u :=
   (⟨h1,⟨_,hu⟩,fun _ _ _ _=>by rw [e1];exact hu⟩:nth hp' (R.σ id) ≠ .none∧(∃ r,u=.map (some r))∧∀ k v l,nth hp' (R.σ id)=.mp k v l→u=.map (some (β' (R.σ id)).blk))
  exact ⟨hp',β',.mph (R.σ id),[],v,Later.refl _ _,hlr,fun _=>⟨hlr,_,rfl⟩,hr⟩
 | .iptr t,x,u,K,z,hl,_,_,hr=>⟨hp',β',.iptr t x,[],v,Later.refl _ _,hl,fun _=>⟨hl,trivial⟩,hr⟩
 | .agg _ _,_,_,_,_,hl,_,_,_=>(hl:False).elim
 | .acons _ _,_,_,_,_,hl,_,_,_=>(hl:False).elim
 | .anil,_,_,_,_,hl,_,_,_=>(hl:False).elim
end
end Ev
end Go.Proofs.YtlfcdmibknmjeaaGreatDoor
namespace Go.Proofs.YtlfcdmibknmjeaaGreatDoor
namespace Ev
open Go Go.RowKit
variable {P:Program} {G:List GV} {α:Type} {E:Entry} {fr hp:List SV} {tm tm2:Array Value} {w:World} {β:Nat→BI} {N:Reg} {r:α × List SV × List SV} {nh:Nat} {γ:Type} {R:Ren}
theorem CR.of_tail {t:Ty} {v:SV} {vs:List SV} {cs:List Value} (h:CR β hp w N t true v vs cs):CR β hp w N t false (.agg t vs) [] cs:=by
 cases t with
 | pair a b=>cases vs with
  | nil=>exact (h:False).elim
  | cons v vs=>exact ⟨rfl,h⟩
 | unit=>exact ⟨rfl,h⟩
 | _=>exact (h:False).elim
theorem CR.nosv {t:Ty} {v:SV} {vs:List SV} {cs:List Value} (h:CR β hp w N t true v vs cs):CR β hp w N t true .none vs cs:=by cases t <;> exact h
theorem CR.cell {t:Ty} {v:SV} {vs:List SV} {cs:List Value} (h:CR β hp w N t false v vs cs):IsCell v:=by
 cases v with
 | none=>cases t <;> exact (h:False).elim
 | row a b c d e=>cases t <;> exact (h:False).elim
 | mp a b c=>cases t <;> exact (h:False).elim
 | dead a=>cases t <;> exact (h:False).elim
 | _=>exact True.intro
theorem CR.of_leaf {t:Ty} {v:SV} {vs:List SV} {c:Value} (h:LR β hp w N v c) (ht:((∃ u,t=.list u)∧(v=.nilS ∨ ∃ a b,v=.own a b)) ∨ (t=.opq∧((∃ a b c d,v=.ptr a b c d) ∨ (∃ a,v=.mph a) ∨ v=.nilP))):CR β hp w N t false v vs [c]:=by
 rcases ht with ⟨⟨u,rfl⟩,rfl | ⟨a,b,rfl⟩⟩ | ⟨rfl,⟨a,b,c',d,rfl⟩ | ⟨a,rfl⟩ | rfl⟩
 ·exact ⟨⟨u,rfl⟩,c,rfl,h⟩
 ·exact ⟨⟨u,rfl⟩,c,rfl,h⟩
 ·exact ⟨rfl,c,rfl,h⟩
 ·exact ⟨rfl,c,rfl,h⟩
 ·exact ⟨rfl,c,rfl,h⟩
theorem resC (h:Sim G E fr hp tm2 w β N) {fr':List SV}:∀ (sh:Sh) (tl:Bool) (x:Tup sh.tys) (t:Ty) (cs:List Value) (hp':List SV) (β':Nat→BI) (done l:List Nat) (K:List SV→SV→List SV→γ) (z:γ),View R tm w β N hp fr' hp' β' done nh →
 HC R.ρ β hp w N sh x t tl cs→shOk R nh sh done=true→OwnF hp ((shOwn sh l).map R.ρ)→resSh R.σ R.ν sh x hp' K=z →
 ∃ hp'' β'' sv vs,View R tm w β N hp fr' hp'' β'' (shDone sh done) nh∧Later β' hp' β'' hp''∧CR β'' hp'' w N t tl sv vs cs∧K hp'' sv vs=z:=by
 intro sh
 induction sh with
 | imm t' =>
  intro tl x t cs hp' β' done l K z v hc _ _ hr
  cases tl with
  | true=>exact (hc:False).elim
  | false =>
   obtain ⟨e,hx⟩:=(hc:t'=t∧rel w N t' x cs)
   subst e
   exact ⟨hp',β',.imm t' x,[],v,Later.refl _ _,CR.of_imm t' hx,hr⟩
 | nilS =>
  intro tl x t cs hp' β' done l K z v hc ho hw hr
  cases tl with
  | true=>exact (hc:False).elim
  | false =>
   obtain ⟨ht,c,rfl,hx⟩:=(hc:(∃ u,t=.list u)∧∃ c,cs=[c]∧HL R.ρ β hp w N .nilS x c)
   obtain ⟨hp'',β'',sv,vs,v',hL,_,hl,hr⟩:=resL h v .nilS x c K z hx ho hw hr
   obtain ⟨hl,e⟩:=hl (by simp)
   exact ⟨hp'',β'',sv,vs,v',hL,CR.of_leaf hl (.inl ⟨ht,.inl e⟩),hr⟩
 | own id s e t' =>
  intro tl x t cs hp' β' done l K z v hc ho hw hr
  cases tl with
  | true=>exact (hc:False).elim
  | false =>
   obtain ⟨ht,c,rfl,hx⟩:=(hc:(∃ u,t=.list u)∧∃ c,cs=[c]∧HL R.ρ β hp w N (.own id s e t') x c)
   obtain ⟨hp'',β'',sv,vs,v',hL,_,hl,hr⟩:=resL h v (.own id s e t') x c K z hx ho hw hr
   obtain ⟨hl,e⟩:=hl (by simp)
   exact ⟨hp'',β'',sv,vs,v',hL,CR.of_leaf hl (.inl ⟨ht,.inr e⟩),hr⟩
 | alias id =>
  intro tl x t cs hp' β' done l K z v hc ho hw hr
  cases tl with
  | true=>exact (hc:False).elim
  | false =>
   obtain ⟨ht,c,rfl,hx⟩:=(hc:(∃ u,t=.list u)∧∃ c,cs=[c]∧HL R.ρ β hp w N (.alias id) x c)
   obtain ⟨hp'',β'',sv,vs,v',hL,_,hl,hr⟩:=resL h v (.alias id) x c K z hx ho hw hr
   obtain ⟨hl,e⟩:=hl (by simp)
   exact ⟨hp'',β'',sv,vs,v',hL,CR.of_leaf hl (.inl ⟨ht,.inr e⟩),hr⟩
 | ptr id p t' =>
  intro tl x t cs hp' β' done l K z v hc ho hw hr
  cases tl with
  | true=>exact (hc:False).elim
  | false =>
   obtain ⟨ht,c,rfl,hx⟩:=(hc:t=.opq∧∃ c,cs=[c]∧HL R.ρ β hp w N (.ptr id p t') x c)
   obtain ⟨hp'',β'',sv,vs,v',hL,_,hl,hr⟩:=resL h v (.ptr id p t') x c K z hx ho hw hr
   obtain ⟨hl,e⟩:=hl (by simp)
   exact ⟨hp'',β'',sv,vs,v',hL,CR.of_leaf hl (.inr ⟨ht,.inl e⟩),hr⟩
 | mp id kt vt =>
  intro tl x t cs hp' β' done l K z v hc ho hw hr
  cases tl with
  | true=>exact (hc:False).elim
  | false =>
   obtain ⟨ht,c,rfl,hx⟩:=(hc:t=.opq∧∃ c,cs=[c]∧HL R.ρ β hp w N (.mp id kt vt) x c)
   obtain ⟨hp'',β'',sv,vs,v',hL,_,hl,hr⟩:=resL h v (.mp id kt vt) x c K z hx ho hw hr
   obtain ⟨hl,e⟩:=hl (by simp)
   exact ⟨hp'',β'',sv,vs,v',hL,CR.of_leaf hl (.inr ⟨ht,.inr (.inl e)⟩),hr⟩
 | malias id =>
  intro tl x t cs hp' β' done l K z v hc ho hw hr
  cases tl with
  | true=>exact (hc:False).elim
  | false =>
   obtain ⟨ht,c,rfl,hx⟩:=(hc:t=.opq∧∃ c,cs=[c]∧HL R.ρ β hp w N (.malias id) x c)
   obtain ⟨hp'',β'',sv,vs,v',hL,_,hl,hr⟩:=resL h v (.malias id) x c K z hx ho hw hr
   obtain ⟨hl,e⟩:=hl (by simp)
   exact ⟨hp'',β'',sv,vs,v',hL,CR.of_leaf hl (.inr ⟨ht,.inr (.inl e)⟩),hr⟩
 | nilP =>
  intro tl x t cs hp' β' done l K z v hc ho hw hr
  cases tl with
  | true=>exact (hc:False).elim
  | false =>
   obtain ⟨ht,c,rfl,hx⟩:=(hc:t=.opq∧∃ c,cs=[c]∧HL R.ρ β hp w N .nilP x c)
   obtain ⟨hp'',β'',sv,vs,v',hL,_,hl,hr⟩:=resL h v .nilP x c K z hx ho hw hr
   obtain ⟨hl,e⟩:=hl (by simp)
   exact ⟨hp'',β'',sv,vs,v',hL,CR.of_leaf hl (.inr ⟨ht,.inr (.inr e)⟩),hr⟩
 | fn f =>
  intro tl x t cs hp' β' done l K z v hc _ _ hr
  cases tl <;> exact (hc:False).elim
 | iptr t' =>
  intro tl x t cs hp' β' done l K z v hc _ _ hr
  cases tl <;> exact (hc:False).elim
 | agg t' c ih =>
  intro tl x t cs hp' β' done l K z v hc ho hw hr
  cases tl with
  | true=>exact (hc:False).elim
  | false =>
   obtain ⟨e,_,hx⟩:=(hc:t'=t∧t.isAgg=true∧HC R.ρ β hp w N c x t true cs)
   subst e
   simp only [shOk,Bool.and_eq_true] at ho
   obtain ⟨hp'',β'',sv,vs,v',hL,hcr,hr⟩:=ih true x t' cs hp' β' done l _ z v hx ho.2 hw hr
   exact ⟨hp'',β'',.agg t' vs,[],v',hL,hcr.of_tail,hr⟩
 | acons a b iha ihb =>
  intro tl x t cs hp' β' done l K z v hc ho hw hr
  cases tl with
  | false=>exact (hc:False).elim
  | true =>
   obtain ⟨ta,tb,c1,c2,rfl,e,h1,h2⟩:=(hc:∃ ta tb c1 c2,t=.pair ta tb∧cs=c1 ++ c2∧HC R.ρ β hp w N a (fstT a.tys x) ta false c1∧HC R.ρ β hp w N b (sndT a.tys x) tb true c2)
   simp only [shOk,Bool.and_eq_true] at ho
   obtain ⟨hp1,β1,sv,_,v1,hL1,hc1,hr1⟩:=iha false _ ta c1 hp' β' done (shOwn b l) _ z v h1 ho.1 hw hr
   obtain ⟨hp2,β2,_,vs,v2,hL2,hc2,hr2⟩:=ihb true _ tb c2 hp1 β1 (shDone a done) l _ z v1 h2 ho.2 (hw.sub (fun i hi=>sub_own a _ i hi)) hr1
   exact ⟨hp2,β2,.none,sv :: vs,v2,hL1.trans hL2,(⟨c1,c2,e,CR.later hL2 (Ext.refl _ _) _ _ _ _ _ hc1.novs,hc2.nosv⟩:∃ c1 c2,cs=c1 ++ c2∧CR β2 hp2 w N ta false sv [] c1∧CR β2 hp2 w N tb true .none vs c2),hr2⟩
 | anil =>
  intro tl x t cs hp' β' done l K z v hc _ _ hr
  cases tl with
  | false=>exact (hc:False).elim
  | true =>
   obtain ⟨rfl,rfl⟩:=(hc:t=.unit∧cs=[])
   exact ⟨hp',β',.none,[],v,Later.refl _ _,⟨rfl,rfl⟩,hr⟩
theorem VR.of1 {v:SV} {u:Value} (h:VR1 β hp w N v u):VR β hp w N v u:=by
 cases v with
 | tup vs=>exact (h:False).elim
 | _=>exact h
theorem resV (h:Sim G E fr hp tm2 w β N) {fr' hp':List SV} {β':Nat→BI} {done l:List Nat} (v:View R tm w β N hp fr' hp' β' done nh) (sh:Sh) (x:Tup sh.tys) (u:Value) (K:List SV→SV→List SV→γ) (z:γ) (hv:HV R.ρ β hp w N sh x u) (ho:shOk R nh sh done=true)
 (hw:OwnF hp ((shOwn sh l).map R.ρ)) (hr:resSh R.σ R.ν sh x hp' K=z):∃ hp'' β'' sv vs,View R tm w β N hp fr' hp'' β'' (shDone sh done) nh∧VR β'' hp'' w N sv u∧K hp'' sv vs=z:=by
 have leaf:HL R.ρ β hp w N sh x u→∃ hp'' β'' sv vs,View R tm w β N hp fr' hp'' β'' (shDone sh done) nh∧VR β'' hp'' w N sv u∧K hp'' sv vs=z:=by
  intro hl
  obtain ⟨hp'',β'',sv,vs,v',_,h1,_,hr⟩:=resL h v sh x u K z hl ho hw hr
  exact ⟨hp'',β'',sv,vs,v',VR.of1 h1,hr⟩
 cases sh with
 | agg t c =>
  obtain ⟨cs,e,hc⟩:=(hv:∃ cs,u=.agg cs.toArray∧HC R.ρ β hp w N (.agg t c) x t false cs)
  simp only [shOk,Bool.and_eq_true] at ho
  obtain ⟨hp'',β'',sv,vs,v',_,hcr,hr⟩:=resC h c true x t cs hp' β' done l _ z v hc.2.2 ho.2 hw hr
  exact ⟨hp'',β'',.agg t vs,[],v',(⟨cs,e,hcr.of_tail⟩:∃ cs,u=.agg cs.toArray∧CR β'' hp'' w N t false (.agg t vs) [] cs),hr⟩
 | imm t=>exact leaf hv
 | nilS=>exact leaf hv
 | own id s e t=>exact leaf hv
 | alias id=>exact leaf hv
 | ptr id p t=>exact leaf hv
 | iptr t=>exact leaf hv
 | mp id kt vt=>exact leaf hv
 | malias id=>exact leaf hv
 | nilP=>exact leaf hv
 | fn f=>exact leaf hv
 | acons a b=>exact leaf hv
 | anil=>exact leaf hv
theorem BR.of_cell {id:Nat} {b:SV} (hc:IsCell b):BR β hp w N id b=∃ cs e,w.heap[(β id).blk]?=some (.cells cs.toArray e (0,0))∧CR β hp w N (β id).bt false b [] cs∧∀ o,¬ N (β id).blk o:=by
 cases b with
 | none=>exact hc.elim
 | row a b c d e=>exact hc.elim
 | mp a b c=>exact hc.elim
 | dead a=>exact hc.elim
 | _=>rfl
theorem blkB_cell {x:BI} {b:SV} (hc:IsCell b):blkB x b=some x.blk:=by
 cases b with
 | none=>exact hc.elim
 | row a b c d e=>exact hc.elim
 | mp a b c=>exact hc.elim
 | dead a=>exact hc.elim
 | _=>rfl
theorem bver_cell {b:SV} (hc:IsCell b):bver b=0∧b ≠ .none:=by
 cases b with
 | none=>exact hc.elim
 | row a b c d e=>exact hc.elim
 | mp a b c=>exact hc.elim
 | dead a=>exact hc.elim
 | _=>exact ⟨rfl,by simp⟩
theorem resG (h:Sim G E fr hp tm2 w β N):∀ (sg:Sig) (x:Tup (sigTys sg)) (fr' hp':List SV) (β':Nat→BI) (done s:List Nat) (K:List SV→List SV→γ) (z:γ),View R tm w β N hp fr' hp' β' done nh→SigH R.ρ β hp w N tm sg x→sigOk R nh sg done s=true→OwnF hp ((sigOwn sg).map R.ρ) →
 resK R.σ R.ν sg x fr' hp' K=z→∃ fr'' hp'' β'',View R tm w β N hp fr'' hp'' β'' (sigIds sg done) nh∧K fr'' hp''=z
 | [],_,fr',hp',β',done,_,K,z,v,_,_,_,hr=>⟨fr',hp',β',v,hr⟩
 | ⟨b,i,sh⟩ :: l,x,fr',hp',β',done,s,K,z,v,hx,ho,hw,hr=>by
  simp only [sigOk,Bool.and_eq_true] at ho
  obtain ⟨hsh,ho⟩:=ho
  obtain ⟨hi,hl⟩:=hx
  have hwl:OwnF hp ((sigOwn l).map R.ρ):=hw.sub (fun j hj=>sub_own sh _ j hj)
  simp only [resK] at hr
  cases b with
  | false =>
   obtain ⟨hp1,β1,sv,_,v1,hv,hr1⟩:=resV h v sh _ _ _ z hi hsh hw hr
   simp only [Bool.and_eq_true,putK_eq] at ho hr1
   refine resG h l _ (put fr' i sv) hp1 β1 _ _ K z { v1 with lf:=by rw [len_put];exact v1.lf,slot:=fun j=>?_ } hl ho.2 hwl hr1
   by_cases e:i=j
   ·subst e
    rcases Nat.lt_or_ge i fr'.length with h' | h'
    ·rw [nth_put_eq _ _ _ h'];exact hv
    ·rw [put_far _ _ _ h'];exact v1.slot i
   ·rw [nth_put_ne _ _ _ _ e];exact v1.slot j
  | true =>
   simp only [Bool.and_eq_true] at ho
   obtain ⟨⟨hin,hno⟩,ho⟩:=ho
   obtain ⟨hcell,cs,e,hheap,hc⟩:=(hi:IsCell (nth hp (R.ρ i))∧∃ cs e,w.heap[(β (R.ρ i)).blk]?=some (.cells cs.toArray e (0,0))∧HC R.ρ β hp w N sh (fstT sh.tys x) (β (R.ρ i)).bt false cs)
   obtain ⟨hp1,β1,sv,vs,v1,_,hcr,hr1⟩:=resC h sh false _ (β (R.ρ i)).bt cs hp' β' done _ _ z v hc hsh hw hr
   simp only [putK_eq,forceN_eq] at hr1
   have hsc:=hcr.cell
   have hb:=h.box (R.ρ i)
   rw [BR.of_cell hcell] at hb
   obtain ⟨_,_,_,_,hN⟩:=hb
   obtain ⟨v2,hL⟩:=v1.add (id:=i) (b:=sv) (y:=β (R.ρ i)) (Nat.le_of_ble_eq_true hin) hno (bver_cell hsc).2 (fun hL=>by
    rw [BR.of_cell hsc,upd_eq]
    exact ⟨cs,e,hheap,CR.later hL (Ext.refl _ _) _ _ _ _ _ hcr.novs,hN⟩) (fun g hg=>by
     rw [blkB_cell hsc] at hg
     unfold blkOf
     rw [blkB_cell hcell];exact hg) (fun _ _ _ _ _ hx=>by rw [hx] at hcell;exact hcell.elim) (fun _=>⟨rfl,hsc⟩) (fun _ _ _ hx=>by rw [hx] at hcell;exact hcell.elim)
   exact resG h l _ fr' _ _ _ _ K z v2 hl ho hwl hr1
theorem resSh_nat {σ ν:Nat→Nat} {γ δ:Type} (F:γ→δ):∀ (sh:Sh) (x:Tup sh.tys) (hp:List SV) (K:List SV→SV→List SV→γ),F (resSh σ ν sh x hp K)=resSh σ ν sh x hp (fun a b c=>F (K a b c)):=by
 intro sh
 induction sh with
 | own id s e t=>intro x hp K;simp only [resSh,forceN_eq,putK_eq]
 | alias id=>intro x hp K;simp only [resSh,forceN_eq]
 | ptr id p t=>intro x hp K;simp only [resSh,forceN_eq]
 | mp id k v=>intro x hp K;simp only [resSh,forceN_eq,putK_eq]
 | malias id=>intro x hp K;simp only [resSh,forceN_eq]
 | agg t c ih=>intro x hp K;exact ih x hp _
 | acons a b iha ihb =>
  intro x hp K
  simp only [resSh]
  rw [iha]
  congr 1
  funext hp v _
  exact ihb _ hp _
 | _=>intro x hp K;rfl
theorem resK_nat {σ ν:Nat→Nat} {γ δ:Type} (F:γ→δ):∀ (sg:Sig) (x:Tup (sigTys sg)) (fr hp:List SV) (K:List SV→List SV→γ),F (resK σ ν sg x fr hp K)=resK σ ν sg x fr hp (fun a b=>F (K a b)):=by
 intro sg
 induction sg with
 | nil=>intro x fr hp K;rfl
 | cons m l ih =>
  intro x fr hp K
  simp only [resK]
  rw [resSh_nat F]
  congr 1
  funext hp v _
  cases m.box with
  | false=>simp only [putK_eq];exact ih _ _ _ _
  | true=>simp only [forceN_eq,putK_eq];exact ih _ _ _ _
def FlatS (v:SV):Prop:=match v with | .none | .nilS | .nilP | .own _ _=>True | .imm t _=>t.flat=true | _=>False
def FlatB (b:SV):Prop:=match b with | .none=>True | .row _ sh _ t _=>sh=false∧t.flat=true | _=>False
theorem flat_put {Q:SV→Prop} {xs:List SV} (h:∀ i,Q (nth xs i)) (i:Nat) {v:SV} (hv:Q v):∀ j,Q (nth (put xs i v) j):=fun j=>by
 rcases Nat.lt_or_ge i xs.length with h' | h'
 ·by_cases e:i=j
  ·subst e;rw [nth_put_eq _ _ _ h'];exact hv
  ·rw [nth_put_ne _ _ _ _ e];exact h j
 ·rw [put_far _ _ _ h'];exact h j
theorem resK_flat {σ ν:Nat→Nat}:∀ (sg:Sig),quietO sg=true→∀ (x:Tup (sigTys sg)) (fr hp:List SV),(∀ i,FlatS (nth fr i))→(∀ i,FlatB (nth hp i)) →
 (∀ i,FlatS (nth (resK σ ν sg x fr hp (fun a b=>(a,b))).1 i))∧∀ i,FlatB (nth (resK σ ν sg x fr hp (fun a b=>(a,b))).2 i)
 | [],_,_,fr,hp,h1,h2=>⟨h1,h2⟩
 | ⟨b,i,sh⟩ :: l,hq,x,fr,hp,h1,h2=>by
  simp only [quietO,Bool.and_eq_true,Bool.not_eq_true'] at hq
  obtain ⟨⟨hb,hs⟩,hl⟩:=hq
  subst hb
  simp only [resK]
  cases sh with
  | imm t=>simp only [resSh,putK_eq];exact resK_flat l hl _ _ _ (flat_put h1 i hs) h2
  | nilS=>simp only [resSh,putK_eq];exact resK_flat l hl _ _ _ (flat_put (v:=.nilS) h1 i trivial) h2
  | nilP=>simp only [resSh,putK_eq];exact resK_flat l hl _ _ _ (flat_put (v:=.nilP) h1 i trivial) h2
  | own id s e t =>
   simp only [Bool.and_eq_true,Bool.not_eq_true'] at hs
   simp only [resSh,putK_eq,forceN_eq]
   exact resK_flat l hl _ _ _ (flat_put (v:=.own (σ id) (ν id)) h1 i trivial) (flat_put (v:=.row (ν id) s e t (fstT _ x)) h2 _ hs)
  | _=>cases hs
theorem nth_none:∀ (n i:Nat),nth (List.replicate n .none) i=.none:=by
 intro n
 induction n with
 | zero=>intro i;rfl
 | succ n ih=>intro i;cases i with
  | zero=>rfl
  | succ i=>exact ih i
theorem View.empty {nf:Nat} (hn:tm.size=nf):View R tm w β N hp (List.replicate nf .none) (List.replicate nh .none) β [] nh:=by
 refine ⟨by rw [List.length_replicate,hn],by simp,fun i=>?_,fun i=>?_,fun i b hb=>?_,fun i _=>nth_none _ _,fun i hi=>(by cases hi),fun i _ hi=>(by cases hi)⟩
 ·rw [nth_none];exact True.intro
 ·rw [nth_none];exact True.intro
 ·unfold blkOf at hb;rw [nth_none] at hb;cases hb
def Pins (E:Entry) (pn:List Nat):Prop:=∀ i x,E.pin i=some x→hasN pn i=true
theorem subN_has:∀ (a b:List Nat),subN a b=true→∀ i,hasN a i=true→hasN b i=true
 | [],_,_,i,h=>by cases h
 | x :: a,b,h,i,hi=>by
  simp only [subN,Bool.and_eq_true] at h
  rcases hasN_cons.1 hi with rfl | hi
  ·exact h.1
  ·exact subN_has a b h.2 i hi
theorem has_done:∀ (sh:Sh) (d:List Nat) (i:Nat),hasN d i=true→hasN (shDone sh d) i=true
 | .own _ _ _ _,_,_,h=>hasN_cons.2 (.inr h)
 | .mp _ _ _,_,_,h=>hasN_cons.2 (.inr h)
 | .agg _ c,d,i,h=>has_done c d i h
 | .acons a b,d,i,h=>has_done b _ i (has_done a d i h)
 | .imm _,_,_,h=>h
 | .nilS,_,_,h=>h
 | .nilP,_,_,h=>h
 | .alias _,_,_,h=>h
 | .malias _,_,_,h=>h
 | .ptr _ _ _,_,_,h=>h
 | .iptr _,_,_,h=>h
 | .fn _,_,_,h=>h
 | .anil,_,_,h=>h
theorem pins_done:∀ (sh:Sh) (l:List Nat) (i:Nat),hasN (shPins sh l) i=true→hasN l i=true ∨ ∀ d,hasN (shDone sh d) i=true
 | .mp id _ _,l,i,h=>by
  rcases hasN_cons.1 h with rfl | h
  ·exact .inr fun d=>hasN_cons.2 (.inl rfl)
  ·exact .inl h
 | .agg _ c,l,i,h=>pins_done c l i h
 | .acons a b,l,i,h=>by
  rcases pins_done a _ i h with k | k
  ·rcases pins_done b l i k with k | k
   ·exact .inl k
   ·exact .inr fun d=>k _
  ·exact .inr fun d=>has_done b _ i (k d)
 | .own _ _ _ _,_,_,h=>.inl h
 | .imm _,_,_,h=>.inl h
 | .nilS,_,_,h=>.inl h
 | .nilP,_,_,h=>.inl h
 | .alias _,_,_,h=>.inl h
 | .malias _,_,_,h=>.inl h
 | .ptr _ _ _,_,_,h=>.inl h
 | .iptr _,_,_,h=>.inl h
 | .fn _,_,_,h=>.inl h
 | .anil,_,_,h=>.inl h
theorem has_ids:∀ (sg:Sig) (d:List Nat) (i:Nat),hasN d i=true→hasN (sigIds sg d) i=true
 | [],_,_,h=>h
 | ⟨b,j,sh⟩ :: l,d,i,h=>by
  cases b with
  | false=>exact has_ids l _ i (has_done sh d i h)
  | true=>exact has_ids l _ i (hasN_cons.2 (.inr (has_done sh d i h)))
theorem pins_ids:∀ (sg:Sig) (i:Nat),hasN (sigPins sg) i=true→∀ d,hasN (sigIds sg d) i=true
 | [],_,h,_=>by cases h
 | ⟨b,j,sh⟩ :: l,i,h,d=>by
  have go:hasN (shPins sh (sigPins l)) i=true→hasN (sigIds (⟨b,j,sh⟩ :: l) d) i=true:=by
   intro h
   rcases pins_done sh _ i h with k | k
   ·cases b <;> exact pins_ids l i k _
   ·cases b with
    | false=>exact has_ids l _ i (k d)
    | true=>exact has_ids l _ i (hasN_cons.2 (.inr (k d)))
  cases b with
  | false=>exact go h
  | true =>
   rcases hasN_cons.1 h with rfl | h
   ·exact has_ids l _ _ (hasN_cons.2 (.inl rfl))
   ·exact go h
theorem shOk_both {R:Ren} (hσ:R.σ=fun i=>i) {nh nh':Nat}:∀ (sh:Sh) (d:List Nat),shOk R nh' sh d=true→shOk .one nh sh d=true→shOk R nh sh d=true
 | .own id _ _ _,d,h,k=>by simp only [shOk,Bool.and_eq_true] at h k ⊢;exact ⟨by rw [hσ];exact k.1,h.2⟩
 | .mp id _ _,d,h,k=>by simp only [shOk,Bool.and_eq_true] at h k ⊢;exact ⟨by rw [hσ];exact k.1,h.2⟩
 | .agg t c,d,h,k=>by simp only [shOk,Bool.and_eq_true] at h k ⊢;exact ⟨h.1,shOk_both hσ c d h.2 k.2⟩
 | .acons a b,d,h,k=>by simp only [shOk,Bool.and_eq_true] at h k ⊢;exact ⟨shOk_both hσ a d h.1 k.1,shOk_both hσ b _ h.2 k.2⟩
 | .alias _,_,h,_=>h
 | .malias _,_,h,_=>h
 | .ptr _ _ _,_,h,_=>h
 | .imm _,_,h,_=>h
 | .nilS,_,h,_=>h
 | .nilP,_,h,_=>h
 | .iptr _,_,h,_=>h
 | .fn _,_,h,_=>h
 | .anil,_,h,_=>h
theorem sigOk_both {R:Ren} (hσ:R.σ=fun i=>i) {nh nh':Nat}:∀ (sg:Sig) (d s:List Nat),sigOk R nh' sg d s=true→sigOk .one nh sg d s=true→sigOk R nh sg d s=true
 | [],_,_,_,_=>rfl
 | ⟨b,i,sh⟩ :: l,d,s,h,k=>by
  simp only [sigOk,Bool.and_eq_true] at h k ⊢
  refine ⟨shOk_both hσ sh d h.1 k.1,?_⟩
  have h2:=h.2
  have k2:=k.2
  cases b with
  | false=>simp only [Bool.and_eq_true] at h2 k2 ⊢;exact ⟨h2.1,sigOk_both hσ l _ _ h2.2 k2.2⟩
  | true=>simp only [Bool.and_eq_true] at h2 k2 ⊢;exact ⟨⟨by rw [hσ];exact k2.1.1,h2.1.2⟩,sigOk_both hσ l _ _ h2.2 k2.2⟩
theorem newId_two {ρ σ:Nat→Nat} {ν ν' ν'':Nat→Nat} {id:Nat}:∀ (d:List Nat),newId ⟨ρ,fun i=>i,ν⟩ id d=true→newId ⟨fun i=>i,σ,ν'⟩ id d=true→newId ⟨ρ,σ,ν''⟩ id d=true
 | [],_,_=>rfl
 | s :: d,h,k=>by
  simp only [newId,Bool.and_eq_true] at h k ⊢
  exact ⟨⟨k.1.1,h.1.2⟩,newId_two d h.2 k.2⟩
theorem shOk_two {ρ σ:Nat→Nat} {ν ν' ν'':Nat→Nat} {nh nh':Nat}:∀ (sh:Sh) (d:List Nat),shOk ⟨ρ,fun i=>i,ν⟩ nh' sh d=true→shOk ⟨fun i=>i,σ,ν'⟩ nh sh d=true→shOk ⟨ρ,σ,ν''⟩ nh sh d=true
 | .own id _ _ _,d,h,k=>by simp only [shOk,Bool.and_eq_true] at h k ⊢;exact ⟨k.1,newId_two d h.2 k.2⟩
 | .mp id _ _,d,h,k=>by simp only [shOk,Bool.and_eq_true] at h k ⊢;exact ⟨k.1,newId_two d h.2 k.2⟩
 | .agg t c,d,h,k=>by simp only [shOk,Bool.and_eq_true] at h k ⊢;exact ⟨h.1,shOk_two c d h.2 k.2⟩
 | .acons a b,d,h,k=>by simp only [shOk,Bool.and_eq_true] at h k ⊢;exact ⟨shOk_two a d h.1 k.1,shOk_two b _ h.2 k.2⟩
 | .alias _,_,h,_=>h
 | .malias _,_,h,_=>h
 | .ptr _ _ _,_,h,_=>h
 | .imm _,_,h,_=>h
 | .nilS,_,h,_=>h
 | .nilP,_,h,_=>h
 | .iptr _,_,h,_=>h
 | .fn _,_,h,_=>h
 | .anil,_,h,_=>h
theorem sigOk_two {ρ σ:Nat→Nat} {ν ν' ν'':Nat→Nat} {nh nh':Nat}:∀ (sg:Sig) (d s:List Nat),sigOk ⟨ρ,fun i=>i,ν⟩ nh' sg d s=true→sigOk ⟨fun i=>i,σ,ν'⟩ nh sg d s=true→sigOk ⟨ρ,σ,ν''⟩ nh sg d s=true
 | [],_,_,_,_=>rfl
 | ⟨b,i,sh⟩ :: l,d,s,h,k=>by
  simp only [sigOk,Bool.and_eq_true] at h k ⊢
  refine ⟨shOk_two sh d h.1 k.1,?_⟩
  have h2:=h.2
  have k2:=k.2
  cases b with
  | false=>simp only [Bool.and_eq_true] at h2 k2 ⊢;exact ⟨h2.1,sigOk_two l _ _ h2.2 k2.2⟩
  | true=>simp only [Bool.and_eq_true] at h2 k2 ⊢;exact ⟨⟨k2.1.1,newId_two _ h2.1.2 k2.1.2⟩,sigOk_two l _ _ h2.2 k2.2⟩
theorem bindRow_ex:∀ (sh:Sh) (tl:Bool) (v:SV) (vs:List SV) (l:List (Nat × Nat)) (K:List (Nat × Nat)→γ),∃ l',bindRow sh tl v vs l K=K l':=by
 intro sh
 induction sh with
 | own id _ _ _ =>
  intro tl v vs l K
  cases v with
  | own i v =>
   simp only [bindRow]
   cases Nat.beq id i
   ·exact ⟨_,rfl⟩
   ·exact ⟨_,rfl⟩
  | _=>exact ⟨_,rfl⟩
 | agg _ c ih=>intro tl v vs l K;cases v <;> first | exact ih _ _ _ _ _ | exact ⟨_,rfl⟩
 | acons a b iha ihb =>
  intro tl v vs l K
  cases vs with
  | nil=>exact ⟨_,rfl⟩
  | cons v vs =>
   obtain ⟨l1,h1⟩:=iha false v [] l (fun l=>bindRow b true .none vs l K)
   obtain ⟨l2,h2⟩:=ihb true .none vs l1 K
   exact ⟨l2,h1.trans h2⟩
 | _=>intro tl v vs l K;exact ⟨_,rfl⟩
theorem rhoF_elim {k:List (Nat × Nat)→Acc P G α}:∀ (its:List Itm) (l:List (Nat × Nat)),run (rhoF its l k) fr hp=some r→∃ l',run (k l') fr hp=some r
 | [],l,hr=>⟨l,hr⟩
 | m :: ms,l,hr=>by
  simp only [rhoF,run] at hr
  obtain ⟨l',e⟩:=bindRow_ex m.sh false (nth (if m.box then hp else fr) m.i) [] l (fun l=>rhoF ms l k)
  rw [e] at hr
  exact rhoF_elim ms l' hr
theorem idOn_at {ρ:Nat→Nat}:∀ (l:List Nat),idOn ρ l=true→∀ i,hasN l i=true→ρ i=i
 | [],_,i,h=>by cases h
 | j :: l,h,i,hi=>by
  simp only [idOn,Bool.and_eq_true] at h
  rcases hasN_cons.1 hi with rfl | hi
  ·exact Nat.eq_of_beq_eq_true h.1
  ·exact idOn_at l h.2 i hi
theorem capA_elim (h:Sim G E fr hp tm w β N) {sg:Sig} (ho:sigOk .one nh sg [] []=true) {k:Tup (sigTys sg)→Acc P G α} (hc:run (capA sg k) fr hp=some r) :
 ∃ ρ hp' N' x,Gh G E fr hp tm w β N hp' N'∧sigOk ⟨ρ,fun i=>i,fun _=>0⟩ nh sg [] []=true∧(∀ i,hasN (sigPins sg) i=true→ρ i=i)∧SigH ρ β hp' w N' tm sg x∧OwnF hp' ((sigOwn sg).map ρ)∧run (k x) fr hp'=some r:=by
 obtain ⟨l,hc⟩:=rhoF_elim _ _ hc
 cases l with
 | nil =>
  obtain ⟨hp1,N1,x',g,hx,hr1⟩:=capF_elim (R:=.one) (nh:=nh) sg [] [] _ hp N h ho hc
  obtain ⟨hw,hr2⟩:=ownA_elim _ hr1
  exact ⟨_,hp1,N1,x',g,ho,fun _ _=>rfl,hx,hw,hr2⟩
 | cons p l =>
  obtain ⟨hk,hc⟩:=cond_fail hc
  simp only [Bool.and_eq_true] at hk
  have ho':=sigOk_both (nh:=nh) rfl sg [] [] hk.1 ho
  obtain ⟨hp1,N1,x',g,hx,hr1⟩:=capF_elim sg [] [] _ hp N h ho' hc
  obtain ⟨hw,hr2⟩:=ownA_elim _ hr1
  exact ⟨_,hp1,N1,x',g,ho',idOn_at _ hk.2,hx,hw,hr2⟩
theorem cap_res (h:Sim G E fr hp tm w β N) {sg:Sig} {nf:Nat} (hn:fr.length=nf) (ho:sigOk .one nh sg [] []=true) {pn:List Nat} (hE:Pins E pn) (hp0:subN pn (sigPins sg)=true) {x:Tup (sigTys sg)} {r1:List SV × List SV} (hc:run (capA sg .pure:Acc P G (Tup (sigTys sg))) fr hp=some (x,r1)) {K:List SV→List SV→Option γ} {z:γ}
 (hr:resK (fun i=>i) (fun _=>0) sg x (List.replicate nf .none) (List.replicate nh .none) K=some z):∃ fr2 hp2 β2 N2,fr2.length=nf∧Sim G E fr2 hp2 tm w β2 N2∧K fr2 hp2=some z:=by
 obtain ⟨ρ,hp1,N1,x',g,ho',hid,hx,hw,hr2⟩:=capA_elim h ho hc
 cases hr2
 obtain ⟨fr2,hp2,β2,v2,hz⟩:=resG (R:=⟨ρ,fun i=>i,fun _=>0⟩) g.sim sg x _ _ β [] [] K (some z) (View.empty (nf:=nf) (by rw [g.sim.len,hn])) hx ho' hw hr
 exact ⟨fr2,hp2,β2,N1,by rw [v2.lf,h.len,hn],v2.sim rfl g.sim (fun i x hi=>by
  have:=subN_has _ _ hp0 i (hE i x hi)
  exact ⟨pins_ids sg i this [],hid i this⟩),hz⟩
end Ev
end Go.Proofs.YtlfcdmibknmjeaaGreatDoor
namespace Go.Proofs.YtlfcdmibknmjeaaGreatDoor
namespace Ev
open Go Go.RowKit
variable {P:Program} {G:List GV} {K:List IntKind} {w w':World} {N N' M:Reg} {β β':Nat→BI} {hp hp':List SV}
theorem rel_leaf:∀ (t:Ty) (x:t.denote) (c:List Value),hasLf K t=false→rel w N t x c→∀ v ∈ c,∀ k n,v=.int k n→hasK K k=false
 | .int j,x,c,h,hx,v,hv,k,n,e=>by
  rw [show c=[.int j x] from hx,List.mem_singleton] at hv
  rw [hv] at e
  cases e
  exact h
 | .bool,x,c,_,hx,v,hv,k,n,e=>by rw [show c=[.bool x] from hx,List.mem_singleton] at hv;rw [hv] at e;cases e
 | .str,x,c,_,hx,v,hv,k,n,e=>by rw [show c=[.string x] from hx,List.mem_singleton] at hv;rw [hv] at e;cases e
 | .unit,x,c,_,hx,v,hv,k,n,e=>by rw [show c=[] from hx] at hv;cases hv
 | .opq,x,c,h,hx,v,hv,k,n,e=>by cases h
 | .pair a b,x,c,h,hx,v,hv,k,n,e=>by
  simp only [hasLf,Bool.or_eq_false_iff] at h
  obtain ⟨c1,c2,rfl,h1,h2⟩:=hx
  rcases List.mem_append.1 hv with hv | hv
  ·exact rel_leaf a _ _ h.1 h1 v hv k n e
  ·exact rel_leaf b _ _ h.2 h2 v hv k n e
 | .list t,x,c,_,hx,v,hv,k,n,e=>by
  obtain ⟨A,cap,rfl,_⟩:=hx
  rw [List.mem_singleton] at hv
  rw [hv] at e;cases e
 | .arr m t,x,c,h,hx,v,hv,k,n,e=>by
  obtain ⟨hn,css,rfl,hl,hr⟩:=hx
  obtain ⟨l,hl',hvl⟩:=List.mem_flatten.1 hv
  obtain ⟨i,hi,rfl⟩:=List.getElem_of_mem hl'
  exact rel_leaf t _ _ h (hr i (by omega) hi) v hvl k n e
def Drop (K:List IntKind) (w:World) (N M:Reg):Prop:=∀ b o,N b o→M b o ∨ ∃ k n,hasK K k=true∧w.cell? ⟨b,o,none⟩=some (.int k n)
theorem At.loan (hD:Drop K w N M) {a:Addr} {cs:List Value} (h:At w N a cs) (hc:∀ v ∈ cs,∀ k n,v=.int k n→hasK K k=false):At w M a cs:=by
 intro j hj
 obtain ⟨h1,h2⟩:=h j hj
 refine ⟨?_,h2⟩
 rcases hD _ _ h1 with h3 | ⟨k,n,hk,h3⟩
 ·exact h3
 ·have hs:=cell_spot h2
  generalize a.add j=b at *
  obtain ⟨b1,b2,b3⟩:=b
  simp only at hs
  subst hs
  rw [h2] at h3
  have:=hc _ (List.getElem_mem hj) k n (Option.some.inj h3)
  rw [this] at hk
  cases hk
theorem rel_loan (hD:Drop K w N M):∀ (t:Ty) (x:t.denote) (c:List Value),noLst K t=true→rel w N t x c→rel w M t x c
 | .int _,_,_,_,h=>h
 | .bool,_,_,_,h=>h
 | .str,_,_,_,h=>h
 | .unit,_,_,_,h=>h
 | .opq,_,_,_,h=>h
 | .pair a b,x,cs,hn,h=>by
  simp only [noLst,Bool.and_eq_true] at hn
  obtain ⟨c1,c2,e,h1,h2⟩:=h
  exact ⟨c1,c2,e,rel_loan hD a _ _ hn.1 h1,rel_loan hD b _ _ hn.2 h2⟩
 | .list t,xs,cs,hn,h=>by
  simp only [noLst,Bool.and_eq_true,Bool.not_eq_true'] at hn
  obtain ⟨A,cap,e,hc,h⟩:=h
  refine ⟨A,cap,e,hc,fun i hi=>?_⟩
  obtain ⟨ad,c,eA,h1,h2⟩:=h i hi
  exact ⟨ad,c,eA,rel_loan hD t _ _ hn.2 h1,h2.loan hD (rel_leaf t _ _ hn.1 h1)⟩
 | .arr n t,xs,cs,hn,h=>by
  obtain ⟨hl,css,e,hc,h⟩:=h
  exact ⟨hl,css,e,hc,fun i hi hi'=>rel_loan hD t _ _ hn (h i hi hi')⟩
inductive OkV (K:List IntKind):SV→Prop
 | none:OkV K .none
 | nilS:OkV K .nilS
 | nilP:OkV K .nilP
 | own (a b):OkV K (.own a b)
 | ptr (a b p t):OkV K (.ptr a b p t)
 | fn (f):OkV K (.fn f)
 | mph (i):OkV K (.mph i)
 | imm {t} (x) (h:noLst K t=true):OkV K (.imm t x)
 | iptr {t} (x) (h:hasLf K t=false) (h':noLst K t=true):OkV K (.iptr t x)
 | agg (t) {vs} (h:∀ i,OkV K (nth vs i)):OkV K (.agg t vs)
 | row (v sh e) {t} (xs) (h:noLst K t=true):OkV K (.row v sh e t xs)
 | mp {k v} (l) (h:noLst K k=true) (h':noLst K v=true):OkV K (.mp k v l)
theorem LeafC.loan (hD:Drop K w N M) {t:Ty} {sv:SV} {cs:List Value} (ho:OkV K sv) (h:LeafC β hp w N t sv cs):LeafC β hp w M t sv cs:=by
 cases ho with
 | imm x hn=>exact ⟨h.1,rel_loan hD _ _ _ hn h.2⟩
 | nilS=>exact h
 | nilP=>exact h
 | own=>exact h
 | ptr=>exact h
 | mph=>exact h
 | none=>exact h.elim
 | fn=>exact h.elim
 | iptr=>exact h.elim
 | agg=>exact h.elim
 | row=>exact h.elim
 | mp=>exact h.elim
theorem CR.loan (hD:Drop K w N M) (t:Ty) (tl:Bool) (sv:SV) (vs:List SV) (cs:List Value) (ho:OkV K sv) (hv:∀ i,OkV K (nth vs i)) (h:CR β hp w N t tl sv vs cs):CR β hp w M t tl sv vs cs:=by
 induction t generalizing tl sv vs cs with
 | pair a b iha ihb =>
  cases tl with
  | true =>
   cases vs with
   | nil=>exact (h:False).elim
   | cons v vs =>
    obtain ⟨c1,c2,e,h1,h2⟩:=(h:∃ c1 c2,cs=c1 ++ c2∧CR β hp w N a false v [] c1∧CR β hp w N b true .none vs c2)
    exact (⟨c1,c2,e,iha _ _ _ _ (hv 0) (fun i=>.none) h1,ihb _ _ _ _ .none (fun i=>hv (i + 1)) h2⟩:∃ c1 c2,cs=c1 ++ c2∧CR β hp w M a false v [] c1∧CR β hp w M b true .none vs c2)
  | false =>
   cases sv with
   | agg t' ws =>
    cases ws with
    | nil=>exact ((h:t'=.pair a b∧False).2).elim
    | cons v ws =>
     cases ho with
     | agg _ hw =>
      obtain ⟨et,c1,c2,e,h1,h2⟩:=(h:t'=.pair a b∧∃ c1 c2,cs=c1 ++ c2∧CR β hp w N a false v [] c1∧CR β hp w N b true .none ws c2)
      exact (⟨et,c1,c2,e,iha _ _ _ _ (hw 0) (fun i=>.none) h1,ihb _ _ _ _ .none (fun i=>hw (i + 1)) h2⟩:t'=.pair a b∧∃ c1 c2,cs=c1 ++ c2∧CR β hp w M a false v [] c1∧CR β hp w M b true .none ws c2)
   | _=>first | exact LeafC.loan hD ho h | exact (LeafC.loan (t:=.pair a b) hD ho h)
 | unit =>
  cases tl with
  | true=>exact h
  | false=>cases sv with
   | agg t' ws=>exact h
   | _=>exact LeafC.loan (t:=.unit) hD ho h
 | int k=>cases tl with | true=>exact (h:False).elim | false=>exact LeafC.loan (t:=.int k) hD ho h
 | bool=>cases tl with | true=>exact (h:False).elim | false=>exact LeafC.loan (t:=.bool) hD ho h
 | str=>cases tl with | true=>exact (h:False).elim | false=>exact LeafC.loan (t:=.str) hD ho h
 | list t=>cases tl with | true=>exact (h:False).elim | false=>exact LeafC.loan (t:=.list t) hD ho h
 | arr n t=>cases tl with | true=>exact (h:False).elim | false=>exact LeafC.loan (t:=.arr n t) hD ho h
 | opq=>cases tl with | true=>exact (h:False).elim | false=>exact LeafC.loan (t:=.opq) hD ho h
theorem VR.loan (hD:Drop K w N M) {sv:SV} {v:Value} (ho:OkV K sv) (h:VR β hp w N sv v):VR β hp w M sv v:=by
 cases ho with
 | imm x hn=>obtain ⟨cs,h1,h2⟩:=(h:IsImm w N _ x v);exact (⟨cs,rel_loan hD _ _ _ hn h1,h2⟩:IsImm w M _ x v)
 | iptr x h1 h2 =>
  obtain ⟨ad,cs,e,k1,k2⟩:=(h:∃ ad cs,v=.pointer (some ad)∧rel w N _ x cs∧At w N ad cs)
  exact (⟨ad,cs,e,rel_loan hD _ _ _ h2 k1,k2.loan hD (rel_leaf _ _ _ h1 k1)⟩:∃ ad cs,v=.pointer (some ad)∧rel w M _ x cs∧At w M ad cs)
 | agg t hv =>
  obtain ⟨cs,e,hc⟩:=(h:∃ cs,v=.agg cs.toArray∧CR β hp w N t false (.agg t _) [] cs)
  exact (⟨cs,e,CR.loan hD _ _ _ _ _ (.agg t hv) (fun i=>.none) hc⟩:∃ cs,v=.agg cs.toArray∧CR β hp w M t false (.agg t _) [] cs)
 | none=>exact h
 | nilS=>exact h
 | nilP=>exact h
 | own=>exact h
 | ptr=>exact h
 | fn=>exact h
 | mph=>exact h
 | row=>exact h
 | mp=>exact h
theorem BR.loan (hD:Drop K w N M) (hs:∀ b o,M b o→N b o) {id:Nat} {b:SV} (ho:OkV K b) (h:BR β hp w N id b):BR β hp w M id b:=by
 have cell:∀ b,OkV K b→(∃ cs e,w.heap[(β id).blk]?=some (.cells cs.toArray e (0,0))∧CR β hp w N (β id).bt false b [] cs∧∀ o,¬ N (β id).blk o) →
  ∃ cs e,w.heap[(β id).blk]?=some (.cells cs.toArray e (0,0))∧CR β hp w M (β id).bt false b [] cs∧∀ o,¬ M (β id).blk o:=by
  intro b hb ⟨cs,e,h1,h2,h3⟩
  exact ⟨cs,e,h1,CR.loan hD _ _ _ _ _ hb (fun i=>.none) h2,fun o hm=>h3 o (hs _ _ hm)⟩
 cases ho with
 | none=>exact h
 | row v sh e xs hn =>
  obtain ⟨⟨⟨css,h1,h2,h3⟩,h4⟩,h5⟩:=h
  exact ⟨⟨⟨css,h1,fun i hi hi'=>rel_loan hD _ _ _ hn (h2 i hi hi'),h3⟩,fun g hg o hm=>h4 g hg o (hs _ _ hm)⟩,h5⟩
 | mp l hk hv =>
  obtain ⟨⟨es,c,h1,h2,h3⟩,h4⟩:=h
  refine ⟨⟨es,c,h1,h2,fun i hi hi'=>?_⟩,fun o hm=>h4 o (hs _ _ hm)⟩
  obtain ⟨⟨c1,k1,k2⟩,⟨c2,k3,k4⟩⟩:=h3 i hi hi'
  exact ⟨⟨c1,rel_loan hD _ _ _ hk k1,k2⟩,⟨c2,rel_loan hD _ _ _ hv k3,k4⟩⟩
 | nilS=>exact cell _ .nilS h
 | nilP=>exact cell _ .nilP h
 | own a b=>exact cell _ (.own a b) h
 | ptr a b p t=>exact cell _ (.ptr a b p t) h
 | fn f=>exact cell _ (.fn f) h
 | mph i=>exact cell _ (.mph i) h
 | imm x hn=>exact cell _ (.imm x hn) h
 | iptr x h1 h2=>exact cell _ (.iptr x h1 h2) h
 | agg t hv=>exact cell _ (.agg t hv) h
theorem okV_put {xs:List SV} (h:∀ i,OkV K (nth xs i)) (i:Nat) {v:SV} (hv:OkV K v):∀ j,OkV K (nth (put xs i v) j):=by
 intro j
 rcases Nat.lt_or_ge i xs.length with h' | h'
 ·by_cases e:i=j
  ·subst e;rw [nth_put_eq _ _ _ h'];exact hv
  ·rw [nth_put_ne _ _ _ _ e];exact h j
 ·rw [put_far _ _ _ h'];exact h j
theorem okV_cons {v:SV} {vs:List SV} (hv:OkV K v) (h:∀ i,OkV K (nth vs i)):∀ i,OkV K (nth (v :: vs) i)
 | 0=>hv
 | i + 1=>h i
theorem resSh_ok {γ:Type} {σ ν:Nat→Nat} (Q:γ→Prop):∀ (sh:Sh),loanSh K sh=true→∀ (x:Tup sh.tys) (hp:List SV),(∀ i,OkV K (nth hp i))→∀ (k:List SV→SV→List SV→γ),(∀ hp v vs,(∀ i,OkV K (nth hp i))→OkV K v→(∀ i,OkV K (nth vs i))→Q (k hp v vs))→Q (resSh σ ν sh x hp k)
 | .imm t,hl,x,hp,hh,k,hk=>hk _ _ _ hh (.imm _ hl) fun _=>.none
 | .nilS,_,_,hp,hh,k,hk=>hk _ _ _ hh .nilS fun _=>.none
 | .nilP,_,_,hp,hh,k,hk=>hk _ _ _ hh .nilP fun _=>.none
 | .own id sh e t,hl,x,hp,hh,k,hk=>by
  simp only [resSh,forceN_eq,putK_eq]
  exact hk _ _ _ (okV_put hh _ (.row _ _ _ _ hl)) (.own _ _) fun _=>.none
 | .alias id,_,_,hp,hh,k,hk=>by
  simp only [resSh,forceN_eq]
  exact hk _ _ _ hh (.own _ _) fun _=>.none
 | .ptr id path t,_,_,hp,hh,k,hk=>by
  simp only [resSh,forceN_eq]
  exact hk _ _ _ hh (.ptr _ _ _ _) fun _=>.none
 | .iptr t,hl,x,hp,hh,k,hk=>by
  simp only [loanSh,Bool.and_eq_true,Bool.not_eq_true'] at hl
  exact hk _ _ _ hh (.iptr _ hl.1 hl.2) fun _=>.none
 | .mp id kt vt,hl,x,hp,hh,k,hk=>by
  simp only [loanSh,Bool.and_eq_true] at hl
  simp only [resSh,forceN_eq,putK_eq]
  exact hk _ _ _ (okV_put hh _ (.mp _ hl.1 hl.2)) (.mph _) fun _=>.none
 | .malias id,_,_,hp,hh,k,hk=>by
  simp only [resSh,forceN_eq]
  exact hk _ _ _ hh (.mph _) fun _=>.none
 | .fn f,_,_,hp,hh,k,hk=>hk _ _ _ hh (.fn _) fun _=>.none
 | .agg t c,hl,x,hp,hh,k,hk=>resSh_ok Q c hl x hp hh _ fun hp _ vs h1 _ h3=>hk _ _ _ h1 (.agg t h3) fun _=>.none
 | .acons a b,hl,x,hp,hh,k,hk=>by
  simp only [loanSh,Bool.and_eq_true] at hl
  exact resSh_ok Q a hl.1 _ hp hh _ fun hp v _ h1 h2 _=>resSh_ok Q b hl.2 _ hp h1 _ fun hp _ vs h3 _ h5=>hk _ _ _ h3 .none (okV_cons h2 h5)
 | .anil,_,_,hp,hh,k,hk=>hk _ _ _ hh .none fun _=>.none
theorem resK_ok {γ:Type} {σ ν:Nat→Nat} (Q:γ→Prop):∀ (sg:Sig),loanO K sg=true→∀ (x:Tup (sigTys sg)) (fr hp:List SV),(∀ i,OkV K (nth fr i))→(∀ i,OkV K (nth hp i))→∀ (k:List SV→List SV→γ),(∀ fr hp,(∀ i,OkV K (nth fr i))→(∀ i,OkV K (nth hp i))→Q (k fr hp))→Q (resK σ ν sg x fr hp k)
 | [],_,_,fr,hp,h1,h2,k,hk=>hk _ _ h1 h2
 | ⟨b,i,sh⟩ :: l,hq,x,fr,hp,h1,h2,k,hk=>by
  simp only [loanO,Bool.and_eq_true] at hq
  simp only [resK]
  refine resSh_ok Q sh hq.1 _ hp h2 _ fun hp v _ h3 h4 _=>?_
  cases b with
  | false =>
   simp only [putK_eq]
   exact resK_ok Q l hq.2 _ _ _ (okV_put h1 i h4) h3 k hk
  | true =>
   simp only [putK_eq,forceN_eq]
   exact resK_ok Q l hq.2 _ _ _ h1 (okV_put h3 _ h4) k hk
end Ev
end Go.Proofs.YtlfcdmibknmjeaaGreatDoor
