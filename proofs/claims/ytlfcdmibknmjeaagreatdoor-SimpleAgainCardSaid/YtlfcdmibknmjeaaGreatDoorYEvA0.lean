import Derived.Laws.AppendOwn
import Derived.Below
import Derived.Orders
import Derived.Laws.CopyRow
import Derived.Laws.Tables
import Derived.Great.BuildSlice
import Derived.Laws.StructEq
import Derived.ChangeKeysEq
import Derived.WalkSpells
namespace Go.Proofs.YtlfcdmibknmjeaaGreatDoor
namespace Ev
open Go Go.RowKit
universe u v
inductive Ty where
 | int (k:IntKind) | bool | str | unit | pair (a b:Ty) | list (t:Ty) | arr (n:Nat) (t:Ty) | opq
deriving DecidableEq
abbrev Ty.denote:Ty→Type
 | .int _=>Int | .bool=>Bool | .str=>ByteArray | .unit=>Unit | .pair a b=>a.denote × b.denote
 | .list t=>List t.denote | .arr _ t=>List t.denote | .opq=>Unit
def Ty.zero:(t:Ty)→t.denote
 | .int _=>(0:Int) | .bool=>false | .str=>⟨#[]⟩ | .unit=>() | .pair a b=>(a.zero,b.zero)
 | .list _=>[] | .arr n t=>List.replicate n t.zero | .opq=>()
def Ty.size:Ty→Nat
 | .int _ | .bool | .str | .list _ | .opq=>1 | .unit=>0 | .pair a b=>a.size + b.size | .arr n t=>n * t.size
def Ty.isAgg:Ty→Bool | .unit | .pair _ _ | .arr _ _=>true | _=>false
def Ty.deepZ:Ty→Bool | .list _ | .opq=>true | .pair a b=>a.deepZ || b.deepZ | .arr _ t=>t.deepZ | _=>false
abbrev Tup:List Ty→Type | []=>Unit | [t]=>t.denote | t :: u :: l=>t.denote × Tup (u :: l)
abbrev Reg:=Nat→Nat→Prop
def At (w:World) (N:Reg) (a:Addr) (cs:List Value):Prop:=∀ j (h:j < cs.length),N (a.add j).block (a.add j).off∧w.cell? (a.add j)=some cs[j]
def rel (w:World) (N:Reg):(t:Ty)→t.denote→List Value→Prop
 | .int k,x,cs=>cs=[.int k x]
 | .bool,x,cs=>cs=[.bool x]
 | .str,x,cs=>cs=[.string x]
 | .unit,_,cs=>cs=[]
 | .pair a b,x,cs=>∃ c1 c2,cs=c1 ++ c2∧rel w N a x.1 c1∧rel w N b x.2 c2
 | .list t,xs,cs=>∃ A cap,cs=[.slice A xs.length cap]∧xs.length ≤ cap∧∀ (i:Nat) (h:i < xs.length),∃ ad c,A=some ad∧rel w N t xs[i] c∧At w N (ad.add (i * t.size)) c
 | .arr n t,xs,cs=>xs.length=n∧∃ css:List (List Value),cs=css.flatten∧css.length=n∧∀ i (h:i < xs.length) (h':i < css.length),rel w N t xs[i] css[i]
 | .opq,_,cs=>∃ v,cs=[v]∧v.oneCell'=true
def valOf (t:Ty) (cs:List Value):Value:=match t.isAgg with | true=>.agg cs.toArray | false=>cs.headD (.tuple #[])
def IsImm (w:World) (N:Reg) (t:Ty) (x:t.denote) (v:Value):Prop:=∃ cs,rel w N t x cs∧v=valOf t cs
def RowAt (w:World) (N:Reg) (e:TypeId) (t:Ty) (sh:Bool) (xs:List t.denote) (v:Value):Prop :=
 (∃ css:List (List Value),css.length=xs.length∧(∀ i (h:i < xs.length) (h':i < css.length),rel w N t xs[i] css[i])∧w.ownsRow 0 e t.size v xs.length css.flatten) ∧
 ∀ g,v.ownBlock=some g→∀ o,N g o→sh=true∧o < xs.length * t.size
structure GV where
 g:Nat
 t:Ty
 x:t.denote
def GOk (G:List GV) (w:World) (N:Reg):Prop:=∀ v ∈ G,∃ cs,rel w N v.t v.x cs∧At w N ⟨v.g,0,none⟩ cs
inductive Step | fld (n:Nat) | idx (i:Int)
inductive SV where
 | none | nilS | nilP
 | imm (t:Ty) (x:t.denote)
 | own (id ver:Nat)
 | ptr (id ver:Nat) (path:List Step) (t:Ty)
 | iptr (t:Ty) (x:t.denote)
 | fn (f:FuncId)
 | mph (id:Nat)
 | tup (vs:List SV)
 | agg (t:Ty) (vs:List SV)
 | row (ver:Nat) (sh:Bool) (e:TypeId) (t:Ty) (xs:List t.denote)
 | dead (ver:Nat)
 | mp (kt vt:Ty) (l:List (kt.denote × vt.denote))
 | sub (id ver i n:Nat) (t:Ty)
 | clo (f:FuncId) (cs:List SV)
def nth:List SV→Nat→SV | [],_=>.none | x :: _,0=>x | _ :: xs,n + 1=>nth xs n
def put:List SV→Nat→SV→List SV | [],_,_=>[] | _ :: xs,0,v=>v :: xs | x :: xs,n + 1,v=>x :: put xs n v
section
variable {γ:Type}
def nthK:List SV→Nat→(SV→γ)→γ | [],_,K=>K .none | x :: _,0,K=>K x | _ :: xs,n + 1,K=>nthK xs n K
def putK:List SV→Nat→SV→(List SV→γ)→γ | [],_,_,K=>K [] | _ :: xs,0,v,K=>K (v :: xs) | x :: xs,n + 1,v,K=>putK xs n v fun ys=>K (x :: ys)
theorem nthK_eq (K:SV→γ):∀ xs i,nthK xs i K=K (nth xs i)
 | [],_=>rfl | _ :: _,0=>rfl | _ :: xs,n + 1=>nthK_eq K xs n
theorem putK_eq:∀ xs i v (K:List SV→γ),putK xs i v K=K (put xs i v)
 | [],_,_,_=>rfl | _ :: _,0,_,_=>rfl | x :: xs,n + 1,v,K=>putK_eq xs n v fun ys=>K (x :: ys)
def forceN (n:Nat) (k:Nat→γ):γ:=match n with | 0=>k 0 | m + 1=>k (m + 1)
theorem forceN_eq (n:Nat) (k:Nat→γ):forceN n k=k n:=by cases n <;> rfl
end
inductive Sh where
 | imm (t:Ty) | nilS | nilP | own (id:Nat) (sh:Bool) (e:TypeId) (t:Ty) | alias (id:Nat) | ptr (id:Nat) (path:List Nat) (t:Ty) | iptr (t:Ty)
 | mp (id:Nat) (kt vt:Ty) | malias (id:Nat) | fn (f:FuncId)
 | agg (t:Ty) (c:Sh) | acons (a b:Sh) | anil
abbrev Sh.tys:Sh→List Ty
 | .imm t=>[t] | .own _ _ _ t=>[.list t] | .iptr t=>[t] | .mp _ k v=>[.list (.pair k v)] | .agg _ c=>c.tys | .acons a b=>a.tys ++ b.tys | _=>[]
structure Itm where
 box:Bool
 i:Nat
 sh:Sh
abbrev Sig:=List Itm
abbrev sigTys:Sig→List Ty | []=>[] | m :: l=>m.sh.tys ++ sigTys l
def consT:{t:Ty}→{l:List Ty}→t.denote→Tup l→Tup (t :: l)
 | _,[],x,_=>x
 | _,_ :: _,x,r=>(x,r)
def hdT:{t:Ty}→{l:List Ty}→Tup (t :: l)→t.denote
 | _,[],x=>x
 | _,_ :: _,x=>x.1
def tlT:{t:Ty}→{l:List Ty}→Tup (t :: l)→Tup l
 | _,[],_=>()
 | _,_ :: _,x=>x.2
def appT:(a:List Ty)→{b:List Ty}→Tup a→Tup b→Tup (a ++ b)
 | [],_,_,r=>r
 | t :: a,_,x,r=>consT (t:=t) (l:=a ++ _) (hdT x) (appT a (tlT x) r)
def fstT:(a:List Ty)→{b:List Ty}→Tup (a ++ b)→Tup a
 | [],_,_=>()
 | t :: a,_,x=>consT (t:=t) (l:=a) (hdT (t:=t) (l:=a ++ _) x) (fstT a (tlT (t:=t) (l:=a ++ _) x))
def sndT:(a:List Ty)→{b:List Ty}→Tup (a ++ b)→Tup b
 | [],_,x=>x
 | t :: a,_,x=>sndT a (tlT (t:=t) (l:=a ++ _) x)
def hasN:List Nat→Nat→Bool | [],_=>false | x :: l,n=>Nat.beq x n || hasN l n
def shOwn:Sh→List Nat→List Nat
 | .own id sh _ _,l=>cond sh l (id :: l)
 | .agg _ c,l=>shOwn c l
 | .acons a b,l=>shOwn a (shOwn b l)
 | _,l=>l
def sigOwn:Sig→List Nat | []=>[] | m :: l=>shOwn m.sh (sigOwn l)
structure Ren where
 ρ:Nat→Nat
 σ:Nat→Nat
 ν:Nat→Nat
def Ren.one:Ren:=⟨fun i=>i,fun i=>i,fun _=>0⟩
section
variable {γ:Type}
def resSh (σ ν:Nat→Nat):(sh:Sh)→Tup sh.tys→List SV→(List SV→SV→List SV→γ)→γ
 | .imm t,x,hp,K=>K hp (.imm t x) []
 | .nilS,_,hp,K=>K hp .nilS []
 | .nilP,_,hp,K=>K hp .nilP []
 | .own id sh e t,x,hp,K=>forceN (σ id) fun i=>forceN (ν id) fun v=>putK hp i (.row v sh e t x) fun hp=>K hp (.own i v) []
 | .alias id,_,hp,K=>forceN (σ id) fun i=>forceN (ν id) fun v=>K hp (.own i v) []
 | .ptr id path t,_,hp,K=>forceN (σ id) fun i=>K hp (.ptr i 0 (path.map .fld) t) []
 | .iptr t,x,hp,K=>K hp (.iptr t x) []
 | .mp id kt vt,x,hp,K=>forceN (σ id) fun i=>putK hp i (.mp kt vt x) fun hp=>K hp (.mph i) []
 | .malias id,_,hp,K=>forceN (σ id) fun i=>K hp (.mph i) []
 | .fn f,_,hp,K=>K hp (.fn f) []
 | .agg t c,x,hp,K=>resSh σ ν c x hp fun hp _ vs=>K hp (.agg t vs) []
 | .acons a b,x,hp,K=>resSh σ ν a (fstT a.tys x) hp fun hp v _=>resSh σ ν b (sndT a.tys x) hp fun hp _ vs=>K hp .none (v :: vs)
 | .anil,_,hp,K=>K hp .none []
def resK (σ ν:Nat→Nat):(sg:Sig)→Tup (sigTys sg)→List SV→List SV→(List SV→List SV→γ)→γ
 | [],_,fr,hp,K=>K fr hp
 | m :: l,x,fr,hp,K=>resSh σ ν m.sh (fstT m.sh.tys x) hp fun hp v _=>match m.box with
  | false=>putK fr m.i v fun fr=>resK σ ν l (sndT m.sh.tys x) fr hp K
  | true=>forceN (σ m.i) fun i=>putK hp i v fun hp=>resK σ ν l (sndT m.sh.tys x) fr hp K
end
structure BI where
 blk:Nat
 val:Value
 bt:Ty
def bver:SV→Nat | .row v _ _ _ _=>v | .dead v=>v | _=>0
def fldOff:Ty→Nat→Option (Nat × Ty)
 | .pair a _,0=>some (0,a)
 | .pair a b,n + 1=>match fldOff b n with | some (o,t)=>some (a.size + o,t) | none=>none
 | _,_=>none
def stepOff:Ty→Step→Option (Nat × Ty)
 | t,.fld n=>fldOff t n
 | .arr n t,.idx i=>if 0 ≤ i∧i < n then some (i.toNat * t.size,t) else none
 | _,_=>none
def pathOff:Ty→List Step→Option (Nat × Ty)
 | t,[]=>some (0,t)
 | t,s :: p=>match stepOff t s with
  | some (o,u)=>match pathOff u p with | some (o',v)=>some (o + o',v) | none=>none
  | none=>none
def inBox (bt:Ty) (b:SV) (p:List Step):Option (Nat × Ty):=match b with
 | .row _ _ _ t xs=>match p with
  | .idx i :: p=>if 0 ≤ i∧i < xs.length then (match pathOff t p with | some (o,u)=>some (i.toNat * t.size + o,u) | none=>none) else none
  | _=>none
 | _=>pathOff bt p
def MapAt (w:World) (N:Reg) (kt vt:Ty) (l:List (kt.denote × vt.denote)) (b:Nat):Prop :=
 (∃ (es:Array MapEntry) (c:Nat),w.heap[b]?=some (.map es c)∧es.size=l.length∧∀ i (h:i < l.length) (h':i < es.size),IsImm w N kt l[i].1 es[i].key∧IsImm w N vt l[i].2 es[i].val)∧∀ o,¬ N b o
def kindB:SV→Nat | .none=>0 | .dead _=>0 | .row _ _ _ _ _=>1 | .mp _ _ _=>2 | _=>3
section
variable (β:Nat→BI) (hp:List SV) (w:World) (N:Reg)
abbrev PtrR (id ver:Nat) (p:List Step) (t:Ty) (v:Value):Prop:=nth hp id ≠ .none∧ver ≤ bver (nth hp id)∧(∃ ad,v=.pointer (some ad))∧(ver=bver (nth hp id)→∃ o,inBox (β id).bt (nth hp id) p=some (o,t)∧v=.pointer (some ⟨(β id).blk,o,none⟩))
def LR (sv:SV) (v:Value):Prop:=match sv with
 | .none=>True
 | .nilS=>v=.slice none 0 0
 | .nilP=>v=.pointer none
 | .own id ver=>nth hp id ≠ .none∧ver ≤ bver (nth hp id)∧v.oneCell'=true∧∀ sh e t xs,nth hp id=.row ver sh e t xs→v=(β id).val
 | .ptr id ver p t=>nth hp id ≠ .none∧ver ≤ bver (nth hp id)∧(∃ ad,v=.pointer (some ad))∧(ver=bver (nth hp id)→∃ o,inBox (β id).bt (nth hp id) p=some (o,t)∧v=.pointer (some ⟨(β id).blk,o,none⟩))
 | .iptr t x=>∃ ad cs,v=.pointer (some ad)∧rel w N t x cs∧At w N ad cs
 | .fn f=>v=.func (.func f) #[] #[]
 | .sub id ver i n t=>nth hp id ≠ .none∧ver ≤ bver (nth hp id)∧v.oneCell'=true∧∀ sh e t' xs,nth hp id=.row ver sh e t' xs→∃ A m cap,(β id).val=.slice A m cap∧m ≤ cap∧i + n ≤ m∧v=.slice (if cap=i then A else A.map (·.add (i * t.size))) n (cap - i)
 | .clo f cs=>∃ us:List Value,v=.func (.func f) #[] us.toArray∧us.length=cs.length∧∀ i,i < cs.length→∃ id ver p t,nth cs i=.ptr id ver p t∧PtrR β hp id ver p t (us.getD i undef)
 | .mph id=>nth hp id ≠ .none∧(∃ r,v=.map (some r))∧∀ kt vt l,nth hp id=.mp kt vt l→v=.map (some (β id).blk)
 | _=>False
def LeafC (t:Ty) (v:SV) (cs:List Value):Prop:=match v with
 | .imm t' x=>t'=t∧rel w N t' x cs
 | .nilS | .own _ _=>(∃ u,t=.list u)∧∃ c,cs=[c]∧LR β hp w N v c
 | .nilP | .ptr _ _ _ _ | .mph _=>t=.opq∧∃ c,cs=[c]∧LR β hp w N v c
 | _=>False
def CR:(t:Ty)→Bool→SV→List SV→List Value→Prop
 | .pair a b,false,.agg t' vs,_,cs=>t'=.pair a b∧match vs with
  | v :: vs=>∃ c1 c2,cs=c1 ++ c2∧CR a false v [] c1∧CR b true .none vs c2
  | []=>False
 | .pair a b,true,_,vs,cs=>match vs with
  | v :: vs=>∃ c1 c2,cs=c1 ++ c2∧CR a false v [] c1∧CR b true .none vs c2
  | []=>False
 | .unit,false,.agg t' vs,_,cs=>t'=.unit∧vs=[]∧cs=[]
 | .unit,true,_,vs,cs=>vs=[]∧cs=[]
 | t,false,v,_,cs=>LeafC β hp w N t v cs
 | _,true,_,_,_=>False
def VR1 (sv:SV) (v:Value):Prop:=match sv with
 | .imm t x=>IsImm w N t x v
 | .agg t vs=>∃ cs,v=.agg cs.toArray∧CR β hp w N t false (.agg t vs) [] cs
 | sv=>LR β hp w N sv v
def VR (sv:SV) (v:Value):Prop:=match sv with
 | .tup vs=>∃ us:List Value,v=.tuple us.toArray∧us.length=vs.length∧∀ i,i < vs.length→VR1 β hp w N (nth vs i) (us.getD i undef)
 | sv=>VR1 β hp w N sv v
def BR (id:Nat) (b:SV):Prop:=match b with
 | .none=>True
 | .dead _=>True
 | .row _ sh e t xs=>RowAt w N e t sh xs (β id).val∧∀ g,(β id).val.ownBlock=some g→(β id).blk=g
 | .mp kt vt l=>MapAt w N kt vt l (β id).blk
 | b=>∃ cs e,w.heap[(β id).blk]?=some (.cells cs.toArray e (0,0))∧CR β hp w N (β id).bt false b [] cs∧∀ o,¬ N (β id).blk o
def blkB (x:BI) (b:SV):Option Nat:=match b with
 | .none=>none
 | .dead _=>none
 | .row _ _ _ _ _=>x.val.ownBlock
 | _=>some x.blk
def blkOf (id:Nat):Option Nat:=blkB (β id) (nth hp id)
end
def Ext (w:World) (N:Reg) (w':World) (N':Reg):Prop:=∀ b o,N b o→N' b o∧w'.cell? ⟨b,o,none⟩=w.cell? ⟨b,o,none⟩
structure Entry where
 w0:World
 N0:Reg
 O:Nat→Prop
 pin:Nat→Option (BI × Nat)
structure Sim (G:List GV) (E:Entry) (fr hp:List SV) (tm:Array Value) (w:World) (β:Nat→BI) (N:Reg):Prop where
 len:tm.size=fr.length
 slot:∀ i,VR β hp w N (nth fr i) (tm.getD i undef)
 box:∀ id,BR β hp w N id (nth hp id)
 apart:∀ id id' b,blkOf β hp id=some b→blkOf β hp id'=some b→id=id'
 bnd:∀ id b,blkOf β hp id=some b→b < w.heap.size∧(E.w0.heap.size ≤ b ∨ E.O b)
 os:w.os=E.w0.os
 tape:w.tape=E.w0.tape
 output:w.output=E.w0.output
 size:E.w0.heap.size ≤ w.heap.size
 frame:∀ b,b < E.w0.heap.size→¬ E.O b→w.heap[b]?=E.w0.heap[b]?
 keep:Ext E.w0 E.N0 w N
 new:∀ b o,N b o→E.N0 b o ∨ E.O b ∨ E.w0.heap.size ≤ b
 ok:∀ b o,N b o→b < w.heap.size
 glob:GOk G w N
 pin:∀ i x,E.pin i=some x→x.2 ≥ 2∧kindB (nth hp i)=x.2∧β i=x.1
def IsCell:SV→Prop | .none=>False | .dead _=>False | .row _ _ _ _ _=>False | .mp _ _ _=>False | _=>True
section
variable (ρ:Nat→Nat) (β:Nat→BI) (hp:List SV) (w:World) (N:Reg)
def HL:(sh:Sh)→Tup sh.tys→Value→Prop
 | .imm t,x,u=>IsImm w N t x u
 | .nilS,_,u=>u=.slice none 0 0
 | .nilP,_,u=>u=.pointer none
 | .own id _ e t,x,u=>(∃ v s,nth hp (ρ id)=.row v s e t x∧u=(β (ρ id)).val) ∨ ((nth hp (ρ id)=.none ∨ ∃ v,nth hp (ρ id)=.dead v)∧x=[]∧u=.slice none 0 0)
 | .alias id,_,u=>(∃ v s e t xs,nth hp (ρ id)=.row v s e t xs)∧u=(β (ρ id)).val
 | .ptr id path t,_,u=>IsCell (nth hp (ρ id))∧∃ o,pathOff (β (ρ id)).bt (path.map .fld)=some (o,t)∧u=.pointer (some ⟨(β (ρ id)).blk,o,none⟩)
 | .iptr t,x,u=>∃ ad cs,u=.pointer (some ad)∧rel w N t x cs∧At w N ad cs
 | .mp id kt vt,x,u=>nth hp (ρ id)=.mp kt vt x∧u=.map (some (β (ρ id)).blk)
 | .malias id,_,u=>(∃ kt vt l,nth hp (ρ id)=.mp kt vt l)∧u=.map (some (β (ρ id)).blk)
 | .fn f,_,u=>u=.func (.func f) #[] #[]
 | _,_,_=>False
def HC:(sh:Sh)→Tup sh.tys→Ty→Bool→List Value→Prop
 | .imm t',x,t,false,cs=>t'=t∧rel w N t' x cs
 | .nilS,x,t,false,cs=>(∃ u,t=.list u)∧∃ c,cs=[c]∧HL ρ β hp w N .nilS x c
 | .nilP,x,t,false,cs=>t=.opq∧∃ c,cs=[c]∧HL ρ β hp w N .nilP x c
 | .own id sh e t',x,t,false,cs=>(∃ u,t=.list u)∧∃ c,cs=[c]∧HL ρ β hp w N (.own id sh e t') x c
 | .alias id,x,t,false,cs=>(∃ u,t=.list u)∧∃ c,cs=[c]∧HL ρ β hp w N (.alias id) x c
 | .ptr id path t',x,t,false,cs=>t=.opq∧∃ c,cs=[c]∧HL ρ β hp w N (.ptr id path t') x c
 | .mp id kt vt,x,t,false,cs=>t=.opq∧∃ c,cs=[c]∧HL ρ β hp w N (.mp id kt vt) x c
 | .malias id,x,t,false,cs=>t=.opq∧∃ c,cs=[c]∧HL ρ β hp w N (.malias id) x c
 | .agg t' c,x,t,false,cs=>t'=t∧t.isAgg=true∧HC c x t true cs
 | .acons a b,x,t,true,cs=>∃ ta tb c1 c2,t=.pair ta tb∧cs=c1 ++ c2∧HC a (fstT a.tys x) ta false c1∧HC b (sndT a.tys x) tb true c2
 | .anil,_,t,true,cs=>t=.unit∧cs=[]
 | _,_,_,_,_=>False
def HV (sh:Sh) (x:Tup sh.tys) (u:Value):Prop:=match sh,x with
 | .agg t c,x=>∃ cs,u=.agg cs.toArray∧HC ρ β hp w N (.agg t c) x t false cs
 | sh,x=>HL ρ β hp w N sh x u
end
def ItmH (ρ:Nat→Nat) (β:Nat→BI) (hp:List SV) (w:World) (N:Reg) (tm:Array Value) (m:Itm) (x:Tup m.sh.tys):Prop:=match m.box with
 | false=>HV ρ β hp w N m.sh x (tm.getD m.i undef)
 | true=>IsCell (nth hp (ρ m.i))∧∃ cs e,w.heap[(β (ρ m.i)).blk]?=some (.cells cs.toArray e (0,0))∧HC ρ β hp w N m.sh x (β (ρ m.i)).bt false cs
def SigH (ρ:Nat→Nat) (β:Nat→BI) (hp:List SV) (w:World) (N:Reg) (tm:Array Value):(sg:Sig)→Tup (sigTys sg)→Prop
 | [],_=>True
 | m :: l,x=>ItmH ρ β hp w N tm m (fstT m.sh.tys x)∧SigH ρ β hp w N tm l (sndT m.sh.tys x)
def OwnF (hp:List SV) (l:List Nat):Prop:=∀ id ∈ l,nth hp id=.none ∨ (∃ v,nth hp id=.dead v) ∨ ∃ v e t xs,nth hp id=.row v false e t xs
def retVal:List Value→Value | [v]=>v | vs=>.tuple vs.toArray
def callable (P:Program) (f:FuncId):Bool:=match P.funcs[f]? with
 | some fn => fn.body.isSome && !(fn.name == "runtime.NumGoroutine")
 | none=>false
def shDone:Sh→List Nat→List Nat
 | .own id _ _ _,d=>id :: d
 | .mp id _ _,d=>id :: d
 | .agg _ c,d=>shDone c d
 | .acons a b,d=>shDone b (shDone a d)
 | _,d=>d
def fitSh:Sh→Ty→Bool→Bool
 | .imm t',t,false=>decide (t'=t)
 | .nilS,t,false=>(match t with | .list _=>true | _=>false)
 | .nilP,t,false=>(match t with | .opq=>true | _=>false)
 | .own _ _ _ _,t,false=>(match t with | .list _=>true | _=>false)
 | .alias _,t,false=>(match t with | .list _=>true | _=>false)
 | .ptr _ _ _,t,false=>(match t with | .opq=>true | _=>false)
 | .mp _ _ _,t,false=>(match t with | .opq=>true | _=>false)
 | .malias _,t,false=>(match t with | .opq=>true | _=>false)
 | .agg t' c,t,false=>decide (t'=t) && t.isAgg && fitSh c t true
 | .acons a b,t,true=>(match t with | .pair ta tb=>fitSh a ta false && fitSh b tb true | _=>false)
 | .anil,t,true=>(match t with | .unit=>true | _=>false)
 | _,_,_=>false
def newId (R:Ren) (id:Nat):List Nat→Bool
 | []=>true
 | s :: d=>!Nat.beq (R.σ s) (R.σ id) && !Nat.beq (R.ρ s) (R.ρ id) && newId R id d
def shOk (R:Ren) (nh:Nat):Sh→List Nat→Bool
 | .own id _ _ _,d=>Nat.blt (R.σ id) nh && newId R id d
 | .mp id _ _,d=>Nat.blt (R.σ id) nh && newId R id d
 | .alias id,d=>hasN d id
 | .malias id,d=>hasN d id
 | .ptr id _ _,d=>hasN d id
 | .agg t c,d=>fitSh (.agg t c) t false && shOk R nh c d
 | .acons a b,d=>shOk R nh a d && shOk R nh b (shDone a d)
 | _,_=>true
def sigOk (R:Ren) (nh:Nat):Sig→List Nat→List Nat→Bool
 | [],_,_=>true
 | m :: l,d,s=>shOk R nh m.sh d && (match m.box with
  | false=>!hasN s m.i && sigOk R nh l (shDone m.sh d) (m.i :: s)
  | true=>Nat.blt (R.σ m.i) nh && newId R m.i (shDone m.sh d) && sigOk R nh l (m.i :: shDone m.sh d) s)
def sigIds:Sig→List Nat→List Nat
 | [],d=>d
 | m :: l,d=>cond m.box (sigIds l (m.i :: shDone m.sh d)) (sigIds l (shDone m.sh d))
def shPins:Sh→List Nat→List Nat
 | .mp id _ _,l=>id :: l
 | .agg _ c,l=>shPins c l
 | .acons a b,l=>shPins a (shPins b l)
 | _,l=>l
def sigPins:Sig→List Nat | []=>[] | m :: l=>cond m.box (m.i :: shPins m.sh (sigPins l)) (shPins m.sh (sigPins l))
def Stands (β:Nat→BI) (hp:List SV) (w:World) (N:Reg) (tm:Array Value) (sg:Sig) (y:Tup (sigTys sg)):Prop :=
 ∃ (ρ:Nat→Nat) (nh:Nat),sigOk ⟨ρ,fun i=>i,fun _=>0⟩ nh sg [] []=true∧(∀ i,hasN (sigPins sg) i=true→ρ i=i)∧SigH ρ β hp w N tm sg y∧OwnF hp ((sigOwn sg).map ρ)
abbrev OutS:List Sig→Type
 | []=>Empty
 | [s]=>Tup (sigTys s)
 | s :: q :: l=>Tup (sigTys s) ⊕ OutS (q :: l)
def elimS {γ:Sort u}:(l:List Sig)→OutS l→((sg:Sig)→Tup (sigTys sg)→γ)→γ
 | [],y,_=>y.elim
 | [s],y,k=>k s y
 | s :: q :: l,y,k=>Sum.elim (fun y=>k s y) (fun y=>elimS (q :: l) y k) y
def Contract (P:Program) (G:List GV) (id:FuncId) (n nh:Nat) (hd:Sig) (m:Nat) (outs:List Sig) (f:Tup (sigTys hd)→Option (OutS outs)):Prop :=
 callable P id=true∧∀ (E:Entry) (w:World) (N:Reg) (β:Nat→BI) (fr hp:List SV) (vs:List Value) (x:Tup (sigTys hd)) (y:OutS outs),f x=some y→vs.length=n →
  (∀ i b,E.pin i=some b→hasN (sigPins hd) i=true)→resK (fun i=>i) (fun _=>0) hd x (List.replicate n .none) (List.replicate nh .none) (fun fr hp=>some (fr,hp))=some (fr,hp)→Sim G E fr hp vs.toArray w β N →
  Calls P id vs.toArray w fun e w'=>∃ us fr' hp' β' N',e=.returned (retVal us)∧us.length=m∧Sim G E fr' hp' us.toArray w' β' N'∧elimS outs y fun sg y=>Stands β' hp' w' N' us.toArray sg y
structure Left (w w':World) (v:Value):Prop where
 os:w'.os=w.os
 tape:w'.tape=w.tape
 output:w'.output=w.output
 size:w.heap.size ≤ w'.heap.size
 block:∀ k,k < w.heap.size→v.ownBlock ≠ some k→w'.heap[k]?=w.heap[k]?
structure RowFn (P:Program) (id:FuncId) where
 t:Ty
 f:List t.denote→List t.denote
 len:∀ xs,(f xs).length=xs.length
 holds:∀ (w:World) (N:Reg) (e:TypeId) (xs:List t.denote) (v:Value),RowAt w N e t false xs v→(∀ b o,N b o→b < w.heap.size) →
  Calls P id #[v] w fun r w'=>r=.returned (.tuple #[])∧RowAt w' N e t false (f xs) v∧Ext w N w' N∧Left w w' v
structure Kn (P:Program) (G:List GV) where
 id:FuncId
 n:Nat
 nh:Nat
 hd:Sig
 m:Nat
 outs:List Sig
 f:Tup (sigTys hd)→Option (OutS outs)
 holds:Contract P G id n nh hd m outs f
 row:Option (RowFn P id)
variable {P:Program} {G:List GV}
inductive Acc (P:Program) (G:List GV) (α:Type):Type where
 | pure (a:α) | fail
 | rd (b:Bool) (i:Nat) (k:SV→Acc P G α)
 | wr (b:Bool) (i:Nat) (v:SV) (k:Acc P G α)
 | br (c:Bool) (x y:Acc P G α)
 | bs (i:Nat) (x y u:Acc P G α)
 | ask (e:Kn P G) (x:Tup (sigTys e.hd)) (k:(sg:Sig)→Tup (sigTys sg)→Acc P G α)
section
variable {α γ:Type}
def runK:Acc P G α→List SV→List SV→(α→List SV→List SV→Option γ)→Option γ
 | .pure a,fr,hp,K=>K a fr hp
 | .fail,_,_,_=>none
 | .rd b i k,fr,hp,K=>match b with
  | false=>nthK fr i fun v=>runK (k v) fr hp K
  | true=>nthK hp i fun v=>runK (k v) fr hp K
 | .wr b i v k,fr,hp,K=>match b with
  | false=>putK fr i v fun fr=>runK k fr hp K
  | true=>putK hp i v fun hp=>runK k fr hp K
 | .br c x y,fr,hp,K=>cond c (runK x fr hp K) (runK y fr hp K)
 | .bs i x y u,fr,hp,K=>nthK fr i fun v=>match v with
  | .imm .bool b=>cond b (putK fr i (.imm .bool true) fun fr=>runK x fr hp K) (putK fr i (.imm .bool false) fun fr=>runK y fr hp K)
  | .tup []=>runK u fr hp K
  | _=>none
 | .ask e x k,fr,hp,K=>(e.f x).bind fun y=>elimS e.outs y fun sg y=>runK (k sg y) fr hp K
def run:Acc P G α→List SV→List SV→Option (α × List SV × List SV)
 | .pure a,fr,hp=>some (a,fr,hp)
 | .fail,_,_=>none
 | .rd b i k,fr,hp=>run (k (nth (if b then hp else fr) i)) fr hp
 | .wr b i v k,fr,hp=>if b then run k fr (put hp i v) else run k (put fr i v) hp
 | .br c x y,fr,hp=>if c then run x fr hp else run y fr hp
 | .bs i x y u,fr,hp=>match nth fr i with
  | .imm .bool b=>if b then run x fr hp else run y fr hp
  | .tup []=>run u fr hp
  | _=>none
 | .ask e x k,fr,hp=>(e.f x).bind fun y=>elimS e.outs y fun sg y=>run (k sg y) fr hp
theorem put_nth:∀ xs i,put xs i (nth xs i)=xs
 | [],_=>rfl | _ :: _,0=>rfl | x :: xs,n + 1=>congrArg (x :: ·) (put_nth xs n)
theorem elimS_ex:∀ (l:List Sig) (y:OutS l),∃ (sg:Sig) (y':Tup (sigTys sg)),sg ∈ l∧(∀ {γ:Type} (k:(sg:Sig)→Tup (sigTys sg)→γ),elimS l y k=k sg y')∧∀ (k:(sg:Sig)→Tup (sigTys sg)→Prop),elimS l y k=k sg y'
 | [],y=>y.elim
 | [_],y=>⟨_,y,List.mem_singleton.2 rfl,fun _=>rfl,fun _=>rfl⟩
 | _ :: _ :: _,.inl y=>⟨_,y,List.mem_cons_self,fun _=>rfl,fun _=>rfl⟩
 | _ :: q :: l,.inr y=>by
  obtain ⟨sg,y',h1,h2,h3⟩:=elimS_ex (q :: l) y
  exact ⟨sg,y',List.mem_cons_of_mem _ h1,fun k=>h2 k,fun k=>h3 k⟩
theorem elimS_map {γ:Sort u} {δ:Sort v} (F:γ→δ):∀ (l:List Sig) (y:OutS l) (k:(sg:Sig)→Tup (sigTys sg)→γ),F (elimS l y k)=elimS l y fun sg y=>F (k sg y)
 | [],y,_=>y.elim
 | [_],_,_=>rfl
 | _ :: _ :: _,.inl _,_=>rfl
 | _ :: q :: l,.inr y,k=>elimS_map F (q :: l) y k
theorem runK_eq:∀ (m:Acc P G α) fr hp (K:α→List SV→List SV→Option γ),runK m fr hp K=(run m fr hp).bind fun r=>K r.1 r.2.1 r.2.2
 | .pure a,fr,hp,K=>rfl
 | .fail,_,_,_=>rfl
 | .rd b i k,fr,hp,K=>by
  cases b <;> simp only [runK,run,nthK_eq] <;> exact runK_eq _ _ _ _
 | .wr b i v k,fr,hp,K=>by
  cases b <;> simp only [runK,run,putK_eq] <;> exact runK_eq _ _ _ _
 | .br c x y,fr,hp,K=>by cases c <;> simp only [runK,run,cond] <;> exact runK_eq _ _ _ _
 | .bs i x y u,fr,hp,K=>by
  simp only [runK,run,nthK_eq,putK_eq]
  have hp0:=put_nth fr i
  split
  ·rename_i b hb
   rw [hb] at hp0
   cases b <;> simp only [cond,hp0] <;> exact runK_eq _ _ _ _
  ·exact runK_eq _ _ _ _
  ·rfl
 | .ask e x k,fr,hp,K=>by
  simp only [runK,run]
  cases e.f x with
  | none=>rfl
  | some y =>
   simp only [Option.bind_some]
   refine Eq.trans ?_ (elimS_map (fun r:Option (α × List SV × List SV)=>r.bind fun r=>K r.1 r.2.1 r.2.2) e.outs y fun sg y=>run (k sg y) fr hp).symm
   congr 1
   funext sg y
   exact runK_eq _ _ _ _
end
end Ev
end Go.Proofs.YtlfcdmibknmjeaaGreatDoor
namespace Go.Proofs.YtlfcdmibknmjeaaGreatDoor
namespace Ev
open Go Go.RowKit
variable {P:Program} {G:List GV} {α:Type}
structure MapT where
 kn:TypeId
 kt:Ty
 vn:TypeId
 vt:Ty
structure TV where
 n:TypeId
 t:Ty
 e:TypeId
 eq:Bool
 mp:Option MapT:=none
abbrev Tab:=List TV
def tyA:Tab→TypeId→(Ty→Acc P G α)→Acc P G α
 | [],_,_=>.fail
 | p :: T,n,k=>match p with | ⟨m,t,_,_,_⟩=>cond (Nat.beq m n) (k t) (tyA T n k)
def tyE:Tab→TypeId→(Ty→TypeId→Acc P G α)→Acc P G α
 | [],_,_=>.fail
 | p :: T,n,k=>match p with | ⟨m,t,e,_,_⟩=>cond (Nat.beq m n) (k t e) (tyE T n k)
def tyQ:Tab→TypeId→(Ty→Acc P G α)→Acc P G α
 | [],_,_=>.fail
 | p :: T,n,k=>match p with | ⟨m,t,_,q,_⟩=>cond (Nat.beq m n) (cond q (cond t.isAgg (k t) .fail) .fail) (tyQ T n k)
def tyM:Tab→TypeId→(MapT→Acc P G α)→Acc P G α
 | [],_,_=>.fail
 | p :: T,n,k=>match p with | ⟨m,_,_,_,q⟩=>cond (Nat.beq m n) (match q with | some q=>k q | none=>.fail) (tyM T n k)
def globA:(L:List GV)→Nat→(SV→Acc P G α)→Acc P G α
 | [],_,_=>.fail
 | v :: L,n,k=>cond (Nat.beq v.g n) (k (.iptr v.t v.x)) (globA L n k)
def fitArg:Sh→SV→Bool
 | .imm _,v=>(match v with | .fn _ | .clo _ _ | .ptr _ _ _ _ | .mph _ | .nilP=>false | _=>true)
 | .own _ _ _ _,v=>(match v with | .own _ _ | .nilS=>true | _=>false)
 | .nilS,v=>(match v with | .nilS=>true | _=>false)
 | .nilP,v=>(match v with | .nilP=>true | _=>false)
 | .ptr _ _ _,v=>(match v with | .ptr _ _ _ _=>true | _=>false)
 | .mp _ _ _,v=>(match v with | .mph _=>true | _=>false)
 | .fn f,v=>(match v with | .fn g=>Nat.beq f g | _=>false)
 | _,_=>true
def fitArgs (vs:List SV):Sig→Bool
 | []=>true
 | m :: l=>(m.box || fitArg m.sh (nth vs m.i)) && fitArgs vs l
def fnA (vs:List SV):List (Kn P G)→FuncId→(Kn P G→Acc P G α)→Acc P G α
 | [],_,_=>.fail
 | e :: L,n,k=>cond (Nat.beq e.id n && fitArgs vs e.hd) (k e) (fnA vs L n k)
def constA (v:Value) (k:SV→Acc P G α):Acc P G α:=match v with
 | .int j n=>k (.imm (.int j) n) | .bool b=>k (.imm .bool b) | .string s=>k (.imm .str s)
 | .slice none 0 0=>k .nilS | .pointer none=>k .nilP | .tuple ⟨[]⟩=>k (.tup []) | _=>.fail
def rdO (o:Operand) (k:SV→Acc P G α):Acc P G α:=match o with
 | .tmp t=>.rd false t k | .const v=>constA v k | .global g=>globA G g k | .func f=>k (.fn f)
def castA (t t':Ty) (x:t.denote) (k:t'.denote→Acc P G α):Acc P G α:=if h:t=t' then k (h ▸ x) else .fail
def eqA (t t':Ty) (k:Acc P G α):Acc P G α:=if t=t' then k else .fail
def tyP:Tab→TypeId→Acc P G α→Acc P G α
 | [],_,_=>.fail
 | p :: T,n,k=>match p with | ⟨m,t,_,q,_⟩=>cond (Nat.beq m n) (cond q (eqA t .opq k) .fail) (tyP T n k)
def leafA (t:Ty) (v:SV) (k:t.denote→Acc P G α):Acc P G α:=match v with
 | .imm t' x=>castA t' t x k
 | .nilS=>match t with | .list _=>k [] | _=>.fail
 | .own id ver=>.rd true id fun b=>match b with
  | .row v sh e t' xs=>cond (Nat.beq v ver) (castA (.list t') t xs fun x=>cond sh (k x) (.wr true id (.row v true e t' xs) (k x))) .fail
  | _=>.fail
 | .sub id ver i n u=>.rd true id fun b=>match b with
  | .row v sh e t' xs=>cond (Nat.beq v ver) (if u=t' then castA (.list t') t ((xs.take (i + n)).drop i) fun x=>cond sh (k x) (.wr true id (.row v true e t' xs) (k x)) else .fail) .fail
  | _=>.fail
 | _=>.fail
def convA:(t:Ty)→Bool→SV→List SV→(t.denote→Acc P G α)→Acc P G α
 | .pair a b,false,.agg t' vs,_,k=>if t'=.pair a b then match vs with
  | v :: vs=>convA a false v [] fun x=>convA b true .none vs fun y=>k (x,y)
  | []=>.fail
  else .fail
 | .pair a b,true,_,vs,k=>match vs with
  | v :: vs=>convA a false v [] fun x=>convA b true .none vs fun y=>k (x,y)
  | []=>.fail
 | .unit,false,.agg t' vs,_,k=>if t'=.unit then match vs with | []=>k () | _=>.fail else .fail
 | .unit,true,_,vs,k=>match vs with | []=>k () | _=>.fail
 | t,false,v,_,k=>leafA t v k
 | _,true,_,_,_=>.fail
def immA (t:Ty) (v:SV) (k:t.denote→Acc P G α):Acc P G α:=convA t false v [] k
def setD (d:Option Tmp) (v:SV) (k:Acc P G α):Acc P G α:=match d with | none=>k | some d=>.wr false d v k
def rdL {α:Type} (z:α) (xs:List α) (i:Int):α:=xs.getD i.toNat z
def fldA:(t:Ty)→t.denote→Nat→((t:Ty)→t.denote→Acc P G α)→Acc P G α
 | .pair a _,x,0,k=>k a x.1
 | .pair _ b,x,n + 1,k=>fldA b x.2 n k
 | _,_,_,_=>.fail
def ftyA:Ty→Nat→(Ty→Acc P G α)→Acc P G α
 | .pair a _,0,k=>k a
 | .pair _ b,n + 1,k=>ftyA b n k
 | _,_,_=>.fail
def nthA:List SV→Nat→(SV→Acc P G α)→Acc P G α
 | [],_,_=>.fail | x :: _,0,k=>k x | _ :: xs,n + 1,k=>nthA xs n k
def putA:List SV→Nat→SV→(List SV→Acc P G α)→Acc P G α
 | [],_,_,_=>.fail | _ :: xs,0,v,k=>k (v :: xs) | x :: xs,n + 1,v,k=>putA xs n v fun ys=>k (x :: ys)
def appA (p:List Step) (s:Step) (k:List Step→Acc P G α):Acc P G α:=match p with | []=>k [s] | x :: p=>appA p s fun q=>k (x :: q)
def getA:List Step→SV→(SV→Acc P G α)→Acc P G α
 | [],v,k=>k v
 | .fld n :: p,v,k=>match v with
  | .imm t x=>fldA t x n fun t x=>getA p (.imm t x) k
  | .agg _ vs=>nthA vs n fun v=>getA p v k
  | _=>.fail
 | .idx i :: p,v,k=>match v with
  | .imm (.arr _ t) xs=>getA p (.imm t (rdL t.zero xs i)) k
  | .row _ _ _ t xs=>getA p (.imm t (rdL t.zero xs i)) k
  | _=>.fail
def fitA (t:Ty) (v:SV) (k:Acc P G α):Acc P G α:=match v with
 | .imm t' _=>eqA t' t k
 | .agg t' _=>eqA t' t k
 | .nilS | .own _ _=>match t with | .list _=>k | _=>.fail
 | .nilP | .ptr _ _ _ _ | .mph _=>match t with | .opq=>k | _=>.fail
 | _=>.fail
def setFldA:(t:Ty)→t.denote→Nat→(u:Ty)→u.denote→(t.denote→Acc P G α)→Acc P G α
 | .pair a _,x,0,u,y,k=>castA u a y fun y=>k (y,x.2)
 | .pair _ b,x,n + 1,u,y,k=>setFldA b x.2 n u y fun z=>k (x.1,z)
 | _,_,_,_,_,_=>.fail
def partsA:(t:Ty)→t.denote→(List SV→Acc P G α)→Acc P G α
 | .pair a b,x,k=>partsA b x.2 fun vs=>k (.imm a x.1 :: vs)
 | .unit,_,k=>k []
 | _,_,_=>.fail
def setA:List Step→SV→SV→(SV→Acc P G α)→Acc P G α
 | [],old,v,k=>match old with
  | .imm t _=>fitA t v (k v) | .agg t _=>fitA t v (k v)
  | .nilS | .own _ _=>(match v with | .nilS | .own _ _ | .imm (.list _) _=>k v | _=>.fail)
  | .nilP | .ptr _ _ _ _ | .mph _=>(match v with | .nilP | .ptr _ _ _ _ | .mph _ | .imm .opq _=>k v | _=>.fail)
  | _=>.fail
 | .fld n :: p,old,v,k=>match old with
  | .imm t x=>fldA t x n fun u y=>setA p (.imm u y) v fun z=>match z with
   | .imm u' y'=>setFldA t x n u' y' fun x'=>k (.imm t x')
   | z=>partsA t x fun vs=>putA vs n z fun vs=>k (.agg t vs)
  | .agg t vs=>nthA vs n fun y=>setA p y v fun z=>putA vs n z fun vs=>k (.agg t vs)
  | _=>.fail
 | .idx i :: p,old,v,k=>match old with
  | .imm (.arr n t) xs=>setA p (.imm t (rdL t.zero xs i)) v fun z=>(match z with
   | .imm t' y=>castA t' t y fun y=>k (.imm (.arr n t) (xs.set i.toNat y))
   | _=>.fail)
  | .row ver sh e t xs=>cond sh .fail (setA p (.imm t (rdL t.zero xs i)) v fun z=>(match z with
   | .imm t' y=>castA t' t y fun y=>k (.row ver false e t (xs.set i.toNat y))
   | _=>.fail))
  | _=>.fail
def zeroA:(t:Ty)→(SV→Acc P G α)→Acc P G α
 | .pair a b,k=>cond (Ty.deepZ (.pair a b)) (zeroA a fun x=>zeroA b fun y=>match y with
  | .agg _ vs=>k (.agg (.pair a b) (x :: vs))
  | .imm u y=>partsA u y fun vs=>k (.agg (.pair a b) (x :: vs))
  | _=>.fail) (k (.imm (.pair a b) (Ty.zero (.pair a b))))
 | .list _,k=>k .nilS
 | t,k=>k (.imm t t.zero)
def freshA (id:Nat) (k:Nat→Acc P G α):Acc P G α:=.rd true id fun b=>match b with
 | .none=>k 0 | .row v _ _ _ _=>k (v + 1) | .dead v=>k (v + 1) | _=>.fail
def wrB (id:Nat) (b:SV) (k:Acc P G α):Acc P G α:=.wr true id b (.rd true id fun c=>match c with | .none=>.fail | _=>k)
def newRow (id:Nat) (e:TypeId) (t:Ty) (xs:List t.denote) (k:SV→Acc P G α):Acc P G α :=
 freshA id fun v=>wrB id (.row v false e t xs) (k (.own id v))
def band (k:IntKind) (a b:Int):Int:=k.wrap (BitVec.ofInt k.bits a &&& BitVec.ofInt k.bits b).toNat
def bor (k:IntKind) (a b:Int):Int:=k.wrap (BitVec.ofInt k.bits a ||| BitVec.ofInt k.bits b).toNat
def bxor (k:IntKind) (a b:Int):Int:=k.wrap (BitVec.ofInt k.bits a ^^^ BitVec.ofInt k.bits b).toNat
def cplI (k:IntKind) (n:Int):Int:=k.wrap (BitVec.ofInt k.bits (if k.signed then -1 else k.max) ^^^ BitVec.ofInt k.bits n).toNat
def bnot (k:IntKind) (a b:Int):Int:=k.wrap (BitVec.ofInt k.bits a &&& ~~~BitVec.ofInt k.bits b).toNat
def shlI (k:IntKind) (a b:Int):Int:=k.wrap (a * 2 ^ (min b.toNat k.bits))
def shrI (k:IntKind) (a b:Int):Int:=a.fdiv (2 ^ (min b.toNat k.bits))
def bAt (s:ByteArray) (i:Int):Int:=((s.data.toList.getD i.toNat 0).toNat:Int)
def copyAt {α:Type} (i n:Nat) (ys xs:List α):List α:=xs.take i ++ ys.take n ++ xs.drop (i + (ys.take n).length)
def copyL {α:Type} (ys xs:List α):List α:=ys.take xs.length ++ xs.drop ys.length
def copyN (a b:Nat):Int:=(min a b:Nat)
def mnI (a b:Int):Int:=if b < a then b else a
def mxI (a b:Int):Int:=if b > a then b else a
def mnS (a b:ByteArray):ByteArray:=if (Op.bytesLess a.toList b.toList || a.toList == b.toList)=true then a else b
def mxS (a b:ByteArray):ByteArray:=if (!Op.bytesLess a.toList b.toList)=true then a else b
def strLt (a b:ByteArray):Bool:=Op.bytesLess a.toList b.toList
def strEq (a b:ByteArray):Bool:=a.toList == b.toList
def allEq {α:Type} (f:α→α→Bool):List α→List α→Bool
 | [],[]=>true
 | x :: xs,y :: ys=>f x y && allEq f xs ys
 | _,_=>false
def eqv:(t:Ty)→t.denote→t.denote→Bool
 | .int _,a,b=>let a:Int:=a;let b:Int:=b;a == b
 | .bool,a,b=>let a:Bool:=a;let b:Bool:=b;a == b
 | .str,a,b=>strEq a b
 | .unit,_,_=>true
 | .pair a b,x,y=>eqv a x.1 y.1 && eqv b x.2 y.2
 | .arr _ t,xs,ys=>allEq (eqv t) xs ys
 | _,_,_=>false
def roomN:Nat:=68719476736
def intBin (op:BinOp) (j:IntKind) (a b:Int) (k:SV→Acc P G α):Acc P G α:=match op with
 | .add=>k (.imm (.int j) (j.wrap (a + b))) | .sub=>k (.imm (.int j) (j.wrap (a - b))) | .mul=>k (.imm (.int j) (j.wrap (a * b)))
 | .quo=>.br (decide (b=0)) .fail (k (.imm (.int j) (j.wrap (a.tdiv b))))
 | .rem=>.br (decide (b=0)) .fail (k (.imm (.int j) (a.tmod b)))
 | .and=>k (.imm (.int j) (band j a b)) | .or=>k (.imm (.int j) (bor j a b)) | .xor=>k (.imm (.int j) (bxor j a b)) | .andNot=>k (.imm (.int j) (bnot j a b))
 | .eql=>k (.imm .bool (a == b)) | .neq=>k (.imm .bool (a != b))
 | .lss=>k (.imm .bool (decide (a < b))) | .leq=>k (.imm .bool (decide (a ≤ b))) | .gtr=>k (.imm .bool (decide (a > b))) | .geq=>k (.imm .bool (decide (a ≥ b)))
 | _=>.fail
def strBin (op:BinOp) (a b:ByteArray) (k:SV→Acc P G α):Acc P G α:=match op with
 | .add=>.br (decide (a.size + b.size ≤ roomN)) (k (.imm .str (a ++ b))) .fail
 | .eql=>k (.imm .bool (strEq a b)) | .neq=>k (.imm .bool (!strEq a b))
 | .lss=>k (.imm .bool (strLt a b)) | .leq=>k (.imm .bool (strLt a b || strEq a b)) | .gtr=>k (.imm .bool (!(strLt a b || strEq a b))) | .geq=>k (.imm .bool (!strLt a b))
 | _=>.fail
def nilCmp (op:BinOp) (same:Bool) (k:SV→Acc P G α):Acc P G α:=match op with | .eql=>k (.imm .bool same) | .neq=>k (.imm .bool (!same)) | _=>.fail
def binA (T:Tab) (op:BinOp) (ty:TypeId) (x y:SV) (k:SV→Acc P G α):Acc P G α:=match x with
 | .imm (.int j) a=>(match y with
  | .imm (.int j') b=>(match op with
   | .shl=>.br (decide (b < 0)) .fail (k (.imm (.int j) (shlI j a b)))
   | .shr=>.br (decide (b < 0)) .fail (k (.imm (.int j) (shrI j a b)))
   | op=>if j=j' then intBin op j a b k else .fail)
  | _=>.fail)
 | .imm .str a=>(match y with | .imm .str b=>strBin op a b k | _=>.fail)
 | .imm .bool a=>(match y with
  | .imm .bool b=>(match op with | .eql=>tyA T ty fun t=>eqA t .bool (k (.imm .bool (a == b))) | .neq=>tyA T ty fun t=>eqA t .bool (k (.imm .bool (!(a == b)))) | _=>.fail)
  | _=>.fail)
 | .imm (.pair a b) x=>tyQ T ty fun t=>eqA t (.pair a b) (immA (.pair a b) y fun y=>(match op with
  | .eql=>k (.imm .bool (eqv (.pair a b) x y)) | .neq=>k (.imm .bool (!eqv (.pair a b) x y)) | _=>.fail))
 | .imm (.arr n u) x=>tyQ T ty fun t=>eqA t (.arr n u) (immA (.arr n u) y fun y=>(match op with
  | .eql=>k (.imm .bool (eqv (.arr n u) x y)) | .neq=>k (.imm .bool (!eqv (.arr n u) x y)) | _=>.fail))
 | .nilP=>(match y with
  | .nilP=>tyP T ty (nilCmp op true k) | .ptr _ _ _ _=>tyP T ty (nilCmp op false k) | _=>.fail)
 | .ptr _ _ _ _=>(match y with | .nilP=>tyP T ty (nilCmp op false k) | _=>.fail)
 | .nilS=>(match y with | .nilS=>tyA T ty fun t=>(match t with | .list _=>nilCmp op true k | _=>.fail) | _=>.fail)
 | .own id ver=>(match y with
  | .nilS=>tyA T ty fun t=>(match t with
   | .list _=>.rd true id fun b=>(match b with | .row v _ _ _ xs=>cond (Nat.beq v ver) (.br (decide (0 < xs.length)) (nilCmp op false k) .fail) .fail | _=>.fail)
   | _=>.fail)
  | _=>.fail)
 | .imm (.list _) xs=>(match y with
  | .nilS=>tyA T ty fun t=>(match t with | .list _=>.br (decide (0 < xs.length)) (nilCmp op false k) .fail | _=>.fail)
  | _=>.fail)
 | .agg _ _=>tyQ T ty fun t=>immA t x fun x=>immA t y fun y=>(match op with
  | .eql=>k (.imm .bool (eqv t x y)) | .neq=>k (.imm .bool (!eqv t x y)) | _=>.fail)
 | _=>.fail
def lenA (T:Tab) (ty:TypeId) (t:Ty) (v:SV) (k:Int→Acc P G α):Acc P G α:=match t with
 | .str=>(match v with | .imm .str x=>k (x.size:Int) | _=>.fail)
 | .arr n _=>k (n:Int)
 | .list _=>(match v with
  | .imm (.list _) xs=>k (xs.length:Int) | .nilS=>k 0
  | .own id ver=>.rd true id fun b=>match b with | .row v _ _ _ xs=>cond (Nat.beq v ver) (k (xs.length:Int)) .fail | _=>.fail
  | .sub id ver _ n _=>.rd true id fun b=>match b with | .row v _ _ _ _=>cond (Nat.beq v ver) (k (n:Int)) .fail | _=>.fail
  | _=>.fail)
 | .opq=>(match v with
  | .mph id=>tyM T ty fun _=>.rd true id fun b=>(match b with | .mp _ _ l=>k (l.length:Int) | _=>.fail)
  | _=>.fail)
 | _=>.fail
def sliceAt (lo hi:Option Int) (n:Int) (k:Int→Int→Acc P G α):Acc P G α:=match lo,hi with
 | none,none=>k 0 n
 | some l,none=>.br (decide (0 ≤ l∧l ≤ n)) (k l n) .fail
 | none,some h=>.br (decide (0 ≤ h∧h ≤ n)) (k 0 h) .fail
 | some l,some h=>.br (decide (0 ≤ l∧l ≤ h∧h ≤ n)) (k l h) .fail
def cutL {α:Type} (lo hi:Option Int) (xs:List α):List α:=match lo,hi with
 | none,none=>xs | some l,none=>xs.drop l.toNat | none,some h=>xs.take h.toNat | some l,some h=>(xs.take h.toNat).drop l.toNat
def sliceL (t:Ty) (x:SV) (lo hi:Option Int) (k:SV→Acc P G α):Acc P G α:=match x with
 | .own id ver=>.rd true id fun b=>match b with
  | .row v sh _ t' xs=>cond (Nat.beq v ver) (cond sh (immA (.list t) (.own id ver) fun xs=>sliceAt lo hi (xs.length:Int) fun _ _=>k (.imm (.list t) (cutL lo hi xs)))
   (if t'=t then sliceAt lo hi (xs.length:Int) fun l h=>k (.sub id ver l.toNat (h - l).toNat t) else .fail)) .fail
  | _=>.fail
 | x=>immA (.list t) x fun xs=>sliceAt lo hi (xs.length:Int) fun _ _=>k (.imm (.list t) (cutL lo hi xs))
def asgA (v:SV) (k:SV→Acc P G α):Acc P G α:=match v with
 | .sub id ver 0 n t=>.rd true id fun b=>match b with
  | .row v sh e t' xs=>cond (Nat.beq v ver) (cond sh .fail (if t=t' then .wr true id (.row (v + 1) false e t' (xs.take n)) (k (.own id (v + 1))) else .fail)) .fail
  | _=>.fail
 | v=>k v
def allPtr:List SV→Bool
 | []=>true
 | v :: l=>match v with | .ptr _ _ _ _=>allPtr l | _=>false
def cloA (f:FuncId) (vs:List SV) (k:SV→Acc P G α):Acc P G α:=match vs with
 | []=>k (.fn f)
 | v :: l=>cond (allPtr (v :: l)) (k (.clo f (v :: l))) .fail
def cutS (lo hi:Option Int) (s:ByteArray):ByteArray:=match lo,hi with
 | none,none=>s | some l,none=>s.extract l.toNat s.size | none,some h=>s.extract 0 h.toNat | some l,some h=>s.extract l.toNat h.toNat
def optIntA (o:Option Operand) (k:Option Int→Acc P G α):Acc P G α:=match o with
 | none=>k none
 | some o=>rdO o fun v=>match v with | .imm (.int _) i=>k (some i) | _=>.fail
def lookI (ps:List (Nat × Operand)) (i:Nat):Option Operand:=match ps with
 | []=>none | p :: ps=>match p with | (j,o)=>cond (Nat.beq j i) (some o) (lookI ps i)
def freshI:List (Nat × Operand)→Bool
 | []=>true
 | p :: ps=>match p with | (i,_)=>(match lookI ps i with | none=>true | some _=>false) && freshI ps
def ltI (n:Nat):List (Nat × Operand)→Bool
 | []=>true
 | p :: ps=>match p with | (i,_)=>Nat.blt i n && ltI n ps
def nflds:Ty→Nat | .pair _ b=>nflds b + 1 | _=>0
def fieldsA:(t:Ty)→Nat→List (Nat × Operand)→(List SV→Acc P G α)→Acc P G α
 | .pair a b,i,ps,k=>match lookI ps i with
  | some o=>rdO o fun v=>fitA a v (fieldsA b (i + 1) ps fun vs=>k (v :: vs))
  | none=>zeroA a fun v=>fieldsA b (i + 1) ps fun vs=>k (v :: vs)
 | .unit,_,_,k=>k []
 | _,_,_,_=>.fail
def joinA:(t:Ty)→List SV→(t.denote→Acc P G α)→Acc P G α→Acc P G α
 | .pair a b,v :: vs,k,no=>match v with
  | .imm a' x=>castA a' a x fun x=>joinA b vs (fun y=>k (x,y)) no
  | _=>no
 | .unit,[],k,_=>k ()
 | _,_,_,no=>no
def elemsA (t:Ty):Nat→Nat→List (Nat × Operand)→(List t.denote→Acc P G α)→Acc P G α
 | 0,_,_,k=>k []
 | n + 1,i,ps,k=>match lookI ps i with
  | some o=>rdO o fun v=>immA t v fun x=>elemsA t n (i + 1) ps fun xs=>k (x :: xs)
  | none=>elemsA t n (i + 1) ps fun xs=>k (t.zero :: xs)
def rowA (t:Ty) (v:SV) (k:List t.denote→Acc P G α):Acc P G α:=match v with
 | .imm t' x=>castA t' (.list t) x k
 | .nilS=>k []
 | .own id ver=>.rd true id fun b=>match b with | .row v _ _ t' xs=>cond (Nat.beq v ver) (castA (.list t') (.list t) xs k) .fail | _=>.fail
 | .sub id ver i n u=>.rd true id fun b=>match b with | .row v _ _ t' xs=>cond (Nat.beq v ver) (if u=t' then castA (.list t') (.list t) ((xs.take (i + n)).drop i) k else .fail) .fail | _=>.fail
 | _=>.fail
def bytesA (xs:List Int):ByteArray:=⟨(xs.map fun n=>UInt8.ofNat n.toNat).toArray⟩
def pathEqA:List Step→List Nat→Acc P G α→Acc P G α
 | [],[],k=>k
 | .fld n :: p,m :: q,k=>cond (Nat.beq n m) (pathEqA p q k) .fail
 | _,_,_=>.fail
def capSh (ρ:Nat→Nat):(sh:Sh)→Bool→SV→List SV→(Tup sh.tys→Acc P G α)→Acc P G α
 | .imm t,false,v,_,k=>immA t v k
 | .nilS,false,v,_,k=>match v with | .nilS=>k () | _=>.fail
 | .nilP,false,v,_,k=>match v with | .nilP=>k () | _=>.fail
 | .own id sh e t,false,v,_,k=>match v with
  | .own id' ver=>cond (Nat.beq (ρ id) id') (.rd true (ρ id) fun b=>match b with
   | .row ver' sh' e' t' xs=>cond (Nat.beq ver ver' && Nat.beq e e' && (sh || !sh')) (castA (.list t') (.list t) xs k) .fail
   | _=>.fail) .fail
  | .nilS=>.rd true (ρ id) fun b=>match b with | .none=>k [] | .dead _=>k [] | _=>.fail
  | _=>.fail
 | .alias id,false,v,_,k=>match v with
  | .own id' ver=>cond (Nat.beq (ρ id) id') (.rd true (ρ id) fun b=>match b with | .row ver' _ _ _ _=>cond (Nat.beq ver ver') (k ()) .fail | _=>.fail) .fail
  | _=>.fail
 | .ptr id path t,false,v,_,k=>match v with
  | .ptr id' ver p t'=>cond (Nat.beq (ρ id) id' && Nat.beq ver 0) (eqA t' t (pathEqA p path (.rd true (ρ id) fun b=>match b with | .none=>.fail | .dead _=>.fail | .row _ _ _ _ _=>.fail | .mp _ _ _=>.fail | _=>k ()))) .fail
  | _=>.fail
 | .mp id kt vt,false,v,_,k=>match v with
  | .mph id'=>cond (Nat.beq (ρ id) id') (.rd true (ρ id) fun b=>match b with
   | .mp kt' vt' l=>castA (.list (.pair kt' vt')) (.list (.pair kt vt)) l k
   | _=>.fail) .fail
  | _=>.fail
 | .malias id,false,v,_,k=>match v with
  | .mph id'=>cond (Nat.beq (ρ id) id') (.rd true (ρ id) fun b=>match b with | .mp _ _ _=>k () | _=>.fail) .fail
  | _=>.fail
 | .fn f,false,v,_,k=>match v with | .fn g=>cond (Nat.beq f g) (k ()) .fail | _=>.fail
 | .iptr t,false,v,_,k=>match v with | .iptr t' x=>castA t' t x k | _=>.fail
 | .agg t c,false,v,_,k=>match v with
  | .agg t' vs=>eqA t' t (capSh ρ c true .none vs k)
  | .imm t' x=>eqA t' t (partsA t' x fun vs=>capSh ρ c true .none vs k)
  | _=>.fail
 | .acons a b,true,_,vs,k=>match vs with
  | v :: vs=>capSh ρ a false v [] fun x=>capSh ρ b true .none vs fun y=>k (appT a.tys x y)
  | []=>.fail
 | .anil,true,_,vs,k=>match vs with | []=>k () | _=>.fail
 | _,_,_,_,_=>.fail
def okBox:Sh→SV→Bool
 | .imm _,v=>(match v with | .imm _ _ | .agg _ _=>true | _=>false)
 | _,_=>true
def capG (ρ:Nat→Nat) (vs:List SV):(sg:Sig)→(Tup (sigTys sg)→Acc P G α)→Acc P G α
 | [],k=>k ()
 | m :: l,k=>match m.box with
  | false=>capSh ρ m.sh false (nth vs m.i) [] fun x=>capG ρ vs l fun y=>k (appT m.sh.tys x y)
  | true=>.rd true (ρ m.i) fun v=>cond (okBox m.sh v) (capSh ρ m.sh false v [] fun x=>capG ρ vs l fun y=>k (appT m.sh.tys x y)) .fail
def capF (ρ:Nat→Nat):(sg:Sig)→(Tup (sigTys sg)→Acc P G α)→Acc P G α
 | [],k=>k ()
 | m :: l,k=>match m.box with
  | false=>.rd false m.i fun v=>capSh ρ m.sh false v [] fun x=>capF ρ l fun y=>k (appT m.sh.tys x y)
  | true=>.rd true (ρ m.i) fun v=>cond (okBox m.sh v) (capSh ρ m.sh false v [] fun x=>capF ρ l fun y=>k (appT m.sh.tys x y)) .fail
def ownA (ρ:Nat→Nat):List Nat→Acc P G α→Acc P G α
 | [],k=>k
 | id :: l,k=>.rd true (ρ id) fun b=>match b with | .none=>ownA ρ l k | .dead _=>ownA ρ l k | .row _ sh _ _ _=>cond sh .fail (ownA ρ l k) | _=>.fail
def lookS:List (Nat × Nat)→Nat→Nat
 | [],n=>n
 | p :: l,n=>match p with | (a,b)=>cond (Nat.beq a n) b (lookS l n)
section
variable {γ:Type}
def bindRow:Sh→Bool→SV→List SV→List (Nat × Nat)→(List (Nat × Nat)→γ)→γ
 | .own id _ _ _,_,v,_,l,K=>match v with | .own i _=>cond (Nat.beq id i) (K l) (K ((id,i) :: l)) | _=>K l
 | .agg _ c,_,v,_,l,K=>match v with | .agg _ vs=>bindRow c true .none vs l K | _=>K l
 | .acons a b,_,_,vs,l,K=>match vs with
  | v :: vs=>bindRow a false v [] l fun l=>bindRow b true .none vs l K
  | []=>K l
 | _,_,_,_,l,K=>K l
end
def rhoF:List Itm→List (Nat × Nat)→(List (Nat × Nat)→Acc P G α)→Acc P G α
 | [],l,k=>k l
 | m :: ms,l,k=>.rd m.box m.i fun v=>bindRow m.sh false v [] l fun l=>rhoF ms l k
def idOn (ρ:Nat→Nat):List Nat→Bool
 | []=>true
 | i :: l=>Nat.beq (ρ i) i && idOn ρ l
def capA (sg:Sig) (k:Tup (sigTys sg)→Acc P G α):Acc P G α:=rhoF sg [] fun l=>match l with
 | []=>capF (fun i=>i) sg fun x=>ownA (fun i=>i) (sigOwn sg) (k x)
 | p :: l=>cond (sigOk ⟨lookS (p :: l),fun i=>i,fun _=>0⟩ 1000000 sg [] [] && idOn (lookS (p :: l)) (sigPins sg)) (capF (lookS (p :: l)) sg fun x=>ownA (lookS (p :: l)) (sigOwn sg) (k x)) .fail
def lookM (kt vt:Ty) (x:kt.denote):List (kt.denote × vt.denote)→vt.denote
 | []=>vt.zero
 | p :: l=>cond (eqv kt x p.1) p.2 (lookM kt vt x l)
def hasM (kt vt:Ty) (x:kt.denote):List (kt.denote × vt.denote)→Bool
 | []=>false
 | p :: l=>cond (eqv kt x p.1) true (hasM kt vt x l)
def setM (kt vt:Ty) (x:kt.denote) (y:vt.denote):List (kt.denote × vt.denote)→List (kt.denote × vt.denote)
 | []=>[(x,y)]
 | p :: l=>cond (eqv kt x p.1) ((p.1,y) :: l) (p :: setM kt vt x y l)
def mapA (T:Tab) (t:TypeId) (m:SV) (k:(q:MapT)→Nat→List (q.kt.denote × q.vt.denote)→Acc P G α):Acc P G α:=tyM T t fun q=>match m with
 | .mph id=>.rd true id fun b=>(match b with | .mp kt vt l=>castA (.list (.pair kt vt)) (.list (.pair q.kt q.vt)) l fun l=>k q id l | _=>.fail)
 | _=>.fail
def mapUpA (T:Tab) (t:TypeId) (m x y:SV) (k:Acc P G α):Acc P G α:=mapA T t m fun q id l=>immA q.kt x fun x=>immA q.vt y fun y=>.wr true id (.mp q.kt q.vt (setM q.kt q.vt x y l)) k
def far:Nat:=1000000
def lookR:List (Nat × Nat)→Nat→Nat→Nat
 | [],z,n=>Nat.add z n
 | p :: l,z,n=>match p with | (a,b)=>cond (Nat.beq a n) b (lookR l z n)
def lookV:List (Nat × Nat)→Nat→Nat
 | [],_=>0
 | p :: l,n=>match p with | (a,b)=>cond (Nat.beq a n) b (lookV l n)
def keysR:List (Nat × Nat)→Nat→Bool
 | [],_=>false
 | p :: l,n=>match p with | (a,_)=>Nat.beq a n || keysR l n
section
variable {γ:Type}
def bindSh:Sh→Bool→SV→List SV→List (Nat × Nat)→(List (Nat × Nat)→γ)→γ
 | .own id _ _ _,_,v,_,l,K=>match v with | .own i _=>K ((id,i) :: l) | _=>K l
 | .ptr id _ _,_,v,_,l,K=>match v with | .ptr i _ _ _=>K ((id,i) :: l) | _=>K l
 | .mp id _ _,_,v,_,l,K=>match v with | .mph i=>K ((id,i) :: l) | _=>K l
 | .agg _ c,_,v,_,l,K=>match v with | .agg _ vs=>bindSh c true .none vs l K | _=>K l
 | .acons a b,_,_,vs,l,K=>match vs with
  | v :: vs=>bindSh a false v [] l fun l=>bindSh b true .none vs l K
  | []=>K l
 | _,_,_,_,l,K=>K l
end
def rhoA (vs:List SV):List Itm→List (Nat × Nat)→(List (Nat × Nat)→Acc P G α)→Acc P G α
 | [],l,k=>k l
 | m :: ms,l,k=>match m.box with
  | false=>bindSh m.sh false (nth vs m.i) [] l fun l=>rhoA vs ms l k
  | true=>.rd true (lookR l far m.i) fun v=>bindSh m.sh false v [] l fun l=>rhoA vs ms l k
def sigmaK {γ:Type} (l:List (Nat × Nat)) (step:Nat):List Nat→Nat→List (Nat × Nat)→(List (Nat × Nat)→γ)→γ
 | [],_,o,K=>K o
 | s :: ids,base,o,K=>cond (keysR l s) (forceN (lookR l far s) fun i=>sigmaK l step ids base ((s,i) :: o) K) (forceN (Nat.add base step) fun b=>sigmaK l step ids b ((s,base) :: o) K)
def verA (σ:Nat→Nat):List Nat→List (Nat × Nat)→(List (Nat × Nat)→Acc P G α)→Acc P G α
 | [],o,k=>k o
 | s :: ids,o,k=>.rd true (σ s) fun b=>match b with
  | .row v _ _ _ _=>forceN (v + 1) fun v=>verA σ ids ((s,v) :: o) k
  | .dead v=>forceN (v + 1) fun v=>verA σ ids ((s,v) :: o) k
  | _=>verA σ ids o k
def wrsA (hpR:List SV) (ρ σ:Nat→Nat) (pins:List Nat):List Nat→List Nat→Acc P G α→Acc P G α
 | [],_,k=>k
 | s :: ids,d,k=>cond (hasN d (σ s)) .fail (nthK hpR (σ s) fun b=>.rd true (σ s) fun b0 =>
  cond (match b0 with
   | .none=>!hasN pins s
   | .row v _ _ _ _=>(match b with | .row v' _ _ _ _=>!hasN pins s && Nat.blt v v' | _=>false)
   | .dead v=>(match b with | .row v' _ _ _ _=>!hasN pins s && Nat.blt v v' | _=>false)
   | _=>hasN pins s && Nat.beq (σ s) (ρ s)) (.wr true (σ s) b (.rd true (σ s) fun c=>match c with | .none=>.fail | _=>wrsA hpR ρ σ pins ids (σ s :: d) k)) .fail)
def onN (σ:Nat→Nat) (ids:List Nat) (i:Nat):Bool:=match ids with | []=>false | s :: l=>Nat.beq (σ s) i || onN σ l i
def tombA (ρ:Nat→Nat) (σ:Nat→Nat) (out:List Nat):List Nat→Acc P G α→Acc P G α
 | [],k=>k
 | s :: ids,k=>cond (onN σ out (ρ s)) (tombA ρ σ out ids k) (.rd true (ρ s) fun b=>match b with
  | .none=>tombA ρ σ out ids k
  | .dead _=>tombA ρ σ out ids k
  | .row v _ _ _ _=>.wr true (ρ s) (.dead (v + 1)) (tombA ρ σ out ids k)
  | _=>.fail)
def rdsA:List Operand→(List SV→Acc P G α)→Acc P G α
 | [],k=>k []
 | o :: os,k=>rdO o fun v=>rdsA os fun vs=>k (v :: vs)
def subN (a b:List Nat):Bool:=match a with | []=>true | x :: a=>hasN b x && subN a b
def noTup:List SV→Bool | []=>true | v :: vs=>match v with | .tup _=>false | _=>noTup vs
def Ty.flat:Ty→Bool | .list _=>false | .pair a b=>a.flat && b.flat | .arr _ t=>t.flat | _=>true
def quietO:Sig→Bool
 | []=>true
 | m :: l=>!m.box && (match m.sh with | .imm t=>t.flat | .own _ sh _ t=>!sh && t.flat | .nilS=>true | .nilP=>true | _=>false) && quietO l
def quietH:Sig→Bool
 | []=>true
 | m :: l=>!m.box && (match m.sh with | .imm _=>true | .fn _=>true | _=>false) && quietH l
def quietOs:List Sig→Bool | []=>true | s :: l=>quietO s && quietOs l
def hasK (K:List IntKind) (k:IntKind):Bool:=K.any fun j=>decide (j=k)
def hasLf (K:List IntKind):Ty→Bool
 | .int k=>hasK K k | .bool | .str | .unit=>false | .opq=>true | .pair a b=>hasLf K a || hasLf K b | .list _=>false | .arr _ t=>hasLf K t
def noLst (K:List IntKind):Ty→Bool
 | .list t=>!hasLf K t && noLst K t | .pair a b=>noLst K a && noLst K b | .arr _ t=>noLst K t | _=>true
def loanSh (K:List IntKind):Sh→Bool
 | .imm t=>noLst K t | .own _ _ _ t=>noLst K t | .iptr t=>!hasLf K t && noLst K t | .mp _ k v=>noLst K k && noLst K v
 | .agg _ c=>loanSh K c | .acons a b=>loanSh K a && loanSh K b | _=>true
def loanO (K:List IntKind):Sig→Bool
 | []=>true
 | m :: l=>loanSh K m.sh && loanO K l
def loanOs (K:List IntKind):List Sig→Bool | []=>true | s :: l=>loanO K s && loanOs K l
def ownsOf:List SV→List Nat
 | []=>[]
 | v :: l=>match v with | .own i _=>i :: ownsOf l | .sub i _ _ _ _=>i :: ownsOf l | _=>ownsOf l
def flagsA:List Nat→(List (Nat × Bool)→Acc P G α)→Acc P G α
 | [],k=>k []
 | i :: l,k=>.rd true i fun b=>match b with | .row _ sh _ _ _=>flagsA l fun fs=>k ((i,sh) :: fs) | _=>flagsA l k
def backA:List (Nat × Bool)→Acc P G α→Acc P G α
 | [],k=>k
 | p :: l,k=>match p with | (i,sh)=>cond sh (backA l k) (.rd true i fun b=>match b with | .row v _ e t xs=>.wr true i (.row v false e t xs) (backA l k) | _=>.fail)
def loansA:List Nat→(List (Nat × Nat × IntKind)→Acc P G α)→Acc P G α
 | [],k=>k []
 | i :: l,k=>.rd true i fun b=>match b with
  | .row v sh _ t _=>cond sh (loansA l k) (match t with | .int j=>loansA l fun fs=>k ((i,v,j) :: fs) | _=>loansA l k)
  | _=>loansA l k
def backL:List (Nat × Nat × IntKind)→Acc P G α→Acc P G α
 | [],k=>k
 | p :: l,k=>match p with
  |(i,v,j)=>.rd true i fun b=>match b with
   | .row v' _ e t xs=>(match t,xs with
    | .int j',xs=>cond (Nat.beq v v' && decide (j=j')) (.wr true i (.row v' false e (.int j') xs) (backL l k)) (backL l k)
    | _,_=>backL l k)
   | _=>backL l k
def kindsOf:List (Nat × Nat × IntKind)→List IntKind | []=>[] | p :: l=>p.2.2 :: kindsOf l
def callA (nt nh base:Nat) (e:Kn P G) (vs:List SV) (k:List SV→Acc P G α):Acc P G α :=
 cond (Nat.beq vs.length e.n) (rhoA vs e.hd.reverse [] fun l =>
  cond (sigOk ⟨lookR l far,fun i=>i,fun _=>0⟩ e.nh e.hd [] []) (capG (lookR l far) vs e.hd fun x=>ownA (lookR l far) (sigOwn e.hd) (.ask e x fun out y =>
   cond (subN (sigPins e.hd) (sigPins out)) (sigmaK l nt (sigIds out []) base [] fun s=>verA (lookR s far) (sigIds out []) [] fun v =>
    cond (sigOk ⟨fun i=>i,lookR s far,lookV v⟩ nh out [] []) (resK (lookR s far) (lookV v) out y (List.replicate e.m .none) (List.replicate nh .none) fun frR hpR =>
     wrsA hpR (lookR l far) (lookR s far) (sigPins e.hd) (sigIds out []) [] (tombA (lookR l far) (lookR s far) (sigIds out []) (sigIds e.hd []) (k frR))) .fail) .fail)) .fail) .fail
def callQ (nt nh base:Nat) (e:Kn P G) (vs:List SV) (k:List SV→Acc P G α):Acc P G α :=
 cond (quietH e.hd && quietOs e.outs) (flagsA (ownsOf vs) fun fs=>callA nt nh base e vs fun us=>backA fs (k us))
  (loansA (ownsOf vs) fun fs=>cond (loanOs (kindsOf fs) e.outs) (callA nt nh base e vs fun us=>backL fs (k us)) (callA nt nh base e vs k))
def immStep (o:Option Tmp):Nat:=match o with | some d=>d | none=>0
def rowCallA {id:FuncId} (rf:RowFn P id) (vs:List SV) (k:Acc P G Unit):Acc P G Unit:=match vs with
 | [v]=>(match v with
  | .own i ver=>.rd true i fun b=>(match b with
   | .row v sh e t xs=>cond (Nat.beq v ver) (cond sh .fail (castA (.list t) (.list rf.t) xs fun xs=>.wr true i (.row v false e rf.t (rf.f xs)) k)) .fail
   | _=>.fail)
  | _=>.fail)
 | _=>.fail
def opA (T:Tab) (env:List (Kn P G)) (nt nh:Nat) (o:Oper):Acc P G Unit:=match o with
 | ⟨dst,op,_,_,_,_⟩ =>
 let dn (v:SV):Acc P G Unit:=setD dst v (.pure ())
 match op with
 | .move x=>rdO x dn
 | .assign x=>rdO x fun v=>asgA v dn
 | .makeFunc fn first captured=>(match fn with
  | .func f=>(match first with | ⟨[]⟩=>rdsA captured.toList fun vs=>cloA f vs dn | _=>.fail)
  | _=>.fail)
 | .pick c a b=>(match c with
  | .tmp i=>.bs i (rdO a dn) (rdO b dn) .fail
  | _=>.fail)
 | .binOp op ty x y _=>rdO x fun x=>rdO y fun y=>binA T op ty x y dn
 | .unOp op _ x=>rdO x fun x=>(match op with
  | .not=>(match x with | .imm .bool b=>dn (.imm .bool (!b)) | _=>.fail)
  | .neg=>(match x with | .imm (.int j) n=>dn (.imm (.int j) (j.wrap (0 - n))) | _=>.fail)
  | .xor=>(match x with | .imm (.int j) n=>dn (.imm (.int j) (cplI j n)) | _=>.fail)
  | _=>.fail)
 | .convert s d x=>rdO x fun x=>tyA T s fun s=>tyA T d fun t=>(match x with
  | .imm (.int _) n=>(match s with | .int _=>(match t with | .int j=>dn (.imm (.int j) (j.wrap n)) | _=>.fail) | _=>.fail)
  | .imm .str b=>eqA s .str (eqA t .str (dn (.imm .str b)))
  | x=>eqA s (.list (.int .u8)) (eqA t .str (rowA (.int .u8) x fun xs=>dn (.imm .str (bytesA xs)))))
 | .nilCheck x=>rdO x fun x=>(match x with | .ptr i v p t=>dn (.ptr i v p t) | .iptr t y=>dn (.iptr t y) | _=>.fail)
 | .extract t i=>rdO t fun t=>(match t with | .tup vs=>nthA vs i dn | _=>.fail)
 | .alloc t=>tyA T t fun t=>zeroA t fun v=>(match dst with
  | some d=>.rd true d fun b=>(match b with | .none=>wrB d v (dn (.ptr d 0 [] t)) | _=>.fail)
  | none=>.fail)
 | .box t x=>tyA T t fun t=>rdO x fun x=>fitA t x (match dst with
  | some d=>.rd true d fun b=>(match b with | .none=>wrB d x (dn (.ptr d 0 [] t)) | _=>.fail)
  | none=>.fail)
 | .build t ps=>cond (freshI ps.toList) (tyA T t fun t=>(match t with
  | .arr n u=>cond (ltI n ps.toList) (elemsA u n 0 ps.toList fun xs=>dn (.imm (.arr n u) xs)) .fail
  | t=>cond (ltI (nflds t) ps.toList) (fieldsA t 0 ps.toList fun vs=>joinA t vs (fun x=>dn (.imm t x)) (dn (.agg t vs))) .fail)) .fail
 | .buildSlice t n ps=>cond (freshI ps.toList && ltI n ps.toList) (tyE T t fun t e=>(match t with
  | .list u=>cond (Nat.ble (n * u.size) 16777216) (elemsA u n 0 ps.toList fun xs=>(match dst with | some d=>newRow d e u xs dn | none=>.fail)) .fail
  | _=>.fail)) .fail
 | .load t a=>rdO a fun a=>tyA T t fun t=>(match a with
  | .iptr u x=>eqA u t (dn (.imm u x))
  | .ptr id ver p u=>eqA u t (.rd true id fun b=>(match b with
   | .row v _ _ _ _=>cond (Nat.beq v ver) (getA p b dn) .fail
   | .mp _ _ _=>.fail
   | .dead _=>.fail
   | .none=>.fail
   | b=>cond (Nat.beq ver 0) (getA p b dn) .fail))
  | _=>.fail)
 | .store t a x=>rdO a fun a=>rdO x fun x=>tyA T t fun t=>(match a with
  | .ptr id ver p u=>eqA u t (match p with
   | .idx i :: p=>immA t x fun x=>.rd true id fun b=>(match b with
    | .row v _ _ _ _=>cond (Nat.beq v ver) (setA (.idx i :: p) b (.imm t x) fun b=>.wr true id b (setD dst (.tup []) (.pure ()))) .fail
    | b=>cond (Nat.beq ver 0) (setA (.idx i :: p) b (.imm t x) fun b=>.wr true id b (setD dst (.tup []) (.pure ()))) .fail)
   | p=>fitA t x (.rd true id fun b=>(match b with
    | .row _ _ _ _ _=>.fail
    | b=>cond (Nat.beq ver 0) (setA p b x fun b=>.wr true id b (setD dst (.tup []) (.pure ()))) .fail)))
  | _=>.fail)
 | .fieldAddr s a n=>rdO a fun a=>tyA T s fun s=>(match a with
  | .iptr t x=>eqA t s (fldA t x n fun t x=>dn (.iptr t x))
  | .ptr id ver p t=>eqA t s (ftyA t n fun u=>appA p (.fld n) fun p=>dn (.ptr id ver p u))
  | _=>.fail)
 | .field s a n=>rdO a fun a=>tyA T s fun s=>(match a with
  | .imm t x=>eqA t s (fldA t x n fun t x=>dn (.imm t x))
  | .agg t vs=>eqA t s (nthA vs n dn)
  | _=>.fail)
 | .indexAddr ty x i=>rdO x fun x=>rdO i fun i=>(match i with
  | .imm (.int _) i=>tyA T ty fun ty=>(match x with
   | .imm (.list t) xs=>eqA ty (.list t) (.br (decide (0 ≤ i∧i < (xs.length:Int))) (dn (.iptr t (rdL t.zero xs i))) .fail)
   | .own id ver=>.rd true id fun b=>(match b with
    | .row v _ _ t xs=>eqA ty (.list t) (cond (Nat.beq v ver) (.br (decide (0 ≤ i∧i < (xs.length:Int))) (dn (.ptr id ver [.idx i] t)) .fail) .fail)
    | _=>.fail)
   | .ptr id ver p u=>eqA u ty (match u with
    | .arr n t=>.br (decide (0 ≤ i∧i < (n:Int))) (appA p (.idx i) fun p=>dn (.ptr id ver p t)) .fail
    | _=>.fail)
   | .iptr u xs=>eqA u ty (match u,xs with
    | .arr n t,xs=>.br (decide (0 ≤ i∧i < (n:Int))) (dn (.iptr t (rdL t.zero xs i))) .fail
    | _,_=>.fail)
   | _=>.fail)
  | _=>.fail)
 | .index ty x i=>rdO x fun x=>rdO i fun i=>(match i with
  | .imm (.int _) i=>tyA T ty fun ty=>(match x with
   | .imm .str s=>eqA ty .str (.br (decide (0 ≤ i∧i < (s.size:Int))) (dn (.imm (.int .u8) (bAt s i))) .fail)
   | .imm (.arr n t) xs=>eqA ty (.arr n t) (.br (decide (0 ≤ i∧i < (n:Int))) (dn (.imm t (rdL t.zero xs i))) .fail)
   | _=>.fail)
  | _=>.fail)
 | .slice ty x lo hi none=>rdO x fun x=>optIntA lo fun lo=>optIntA hi fun hi=>tyA T ty fun ty=>(match ty with
  | .str=>(match x with | .imm .str s=>sliceAt lo hi (s.size:Int) fun _ _=>dn (.imm .str (cutS lo hi s)) | _=>.fail)
  | .list t=>sliceL t x lo hi dn
  | .arr n t=>(match x with
   | .iptr u xs=>eqA u (.arr n t) (match u,xs with
    | .arr m t,xs=>sliceAt lo hi (m:Int) fun _ _=>dn (.imm (.list t) (cutL lo hi xs))
    | _,_=>.fail)
   | _=>.fail)
  | _=>.fail)
 | .makeSlice ty l c=>rdO l fun l=>rdO c fun c=>tyE T ty fun ty e=>(match ty with
  | .list t=>(match l with
   | .imm (.int _) l=>(match c with
    | .imm (.int _) c=>(match dst with
     | some d=>.br (decide (0 ≤ l∧l ≤ c∧c ≤ (roomN:Int))) (newRow d e t (List.replicate l.toNat t.zero) dn) .fail
     | none=>.fail)
    | _=>.fail)
   | _=>.fail)
  | _=>.fail)
 | .makeMap t none=>tyM T t fun q=>(match dst with
  | some d=>.rd true d fun b=>(match b with | .none=>wrB d (.mp q.kt q.vt []) (dn (.mph d)) | _=>.fail)
  | none=>.fail)
 | .lookup t m x ok=>rdO m fun m=>rdO x fun x=>mapA T t m fun q _ l=>immA q.kt x fun x=>cond ok (dn (.tup [.imm q.vt (lookM q.kt q.vt x l),.imm .bool (hasM q.kt q.vt x l)]))
  (dn (.imm q.vt (lookM q.kt q.vt x l)))
 | .mapUpdate t m x y=>rdO m fun m=>rdO x fun x=>rdO y fun y=>mapUpA T t m x y (setD dst (.tup []) (.pure ()))
 | .insert t m x y=>rdO m fun m=>rdO x fun x=>rdO y fun y=>mapUpA T t m x y (setD dst (.tup []) (.pure ()))
 | .call ⟨c,args,tys⟩=>(match c with
  | .builtin b=>(match b with
   | .len=>(match args with | ⟨[x]⟩=>(match tys with | ⟨[ty]⟩=>rdO x fun x=>tyA T ty fun t=>lenA T ty t x fun n=>dn (.imm (.int .i64) n) | _=>.fail) | _=>.fail)
   | .min=>(match args with
    | ⟨[x,y]⟩=>rdO x fun x=>rdO y fun y=>(match x with
     | .imm (.int j) a=>(match y with | .imm (.int j') b=>if j=j' then dn (.imm (.int j) (mnI a b)) else .fail | _=>.fail)
     | .imm .str a=>(match y with | .imm .str b=>dn (.imm .str (mnS a b)) | _=>.fail)
     | _=>.fail)
    | _=>.fail)
   | .max=>(match args with
    | ⟨[x,y]⟩=>rdO x fun x=>rdO y fun y=>(match x with
     | .imm (.int j) a=>(match y with | .imm (.int j') b=>if j=j' then dn (.imm (.int j) (mxI a b)) else .fail | _=>.fail)
     | .imm .str a=>(match y with | .imm .str b=>dn (.imm .str (mxS a b)) | _=>.fail)
     | _=>.fail)
    | _=>.fail)
   | .append=>(match args with
    | ⟨[s,x]⟩=>rdO s fun s=>rdO x fun x=>(match tys with
     | ⟨[ty,ty']⟩=>cond (Nat.beq ty ty') (tyE T ty fun ty e=>(match ty with
      | .list t=>rowA t x fun ys=>(match s with
       | .nilS=>.br (decide (ys.length ≤ roomN)) (match dst with | some d=>newRow d e t ys dn | none=>.fail) .fail
       | .own id ver=>.rd true id fun b=>(match b with
        | .row v sh e' t' xs=>cond (Nat.beq v ver) (cond (Nat.beq e e') (castA (.list t') (.list t) xs fun xs=>.br (decide (xs.length + ys.length ≤ roomN))
         (.wr true id (.row (v + 1) sh e t (xs ++ ys)) (dn (.own id (v + 1)))) .fail) .fail) .fail
        | _=>.fail)
       | _=>.fail)
      | _=>.fail)) .fail
     | _=>.fail)
    | _=>.fail)
   | .copy=>(match args with
    | ⟨[d,x]⟩=>(match tys with
     | ⟨[ty,_]⟩=>rdO d fun d=>rdO x fun x=>tyE T ty fun ty _=>(match ty with
      | .list t=>(match d with
       | .own id ver=>.rd true id fun b=>(match b with
        | .row v sh e' t' xs=>cond sh .fail (cond (Nat.beq v ver) (castA (.list t') (.list t) xs fun xs=>rowA t x fun ys =>
         .wr true id (.row v false e' t (copyL ys xs)) (dn (.imm (.int .i64) (copyN ys.length xs.length)))) .fail)
        | _=>.fail)
       | .sub id ver i n u=>.rd true id fun b=>(match b with
        | .row v sh e' t' xs=>cond sh .fail (cond (Nat.beq v ver) (if u=t' then castA (.list t') (.list t) xs fun xs=>rowA t x fun ys =>
         .wr true id (.row v false e' t (copyAt i n ys xs)) (dn (.imm (.int .i64) (copyN ys.length n))) else .fail) .fail)
        | _=>.fail)
       | _=>.fail)
      | _=>.fail)
     | _=>.fail)
    | _=>.fail)
   | _=>.fail)
  | .value f=>rdO f fun f=>(match f with
   | .fn f=>rdsA args.toList fun vs=>fnA vs env f fun e=>(match e.row with
    | none=>callQ nt nh (immStep dst) e vs fun vs=>(match vs with
     | [v]=>dn v
     | vs=>cond (noTup vs) (dn (.tup vs)) .fail)
    | some rf=>rowCallA rf vs (dn (.tup [])))
   | .clo f cs=>rdsA args.toList fun vs=>fnA (vs ++ cs) env f fun e=>callQ nt nh (immStep dst) e (vs ++ cs) fun vs=>(match vs with
    | [v]=>dn v
    | vs=>cond (noTup vs) (dn (.tup vs)) .fail)
   | _=>.fail)
  | _=>.fail)
 | _=>.fail
end Ev
end Go.Proofs.YtlfcdmibknmjeaaGreatDoor
namespace Go.Proofs.YtlfcdmibknmjeaaGreatDoor
namespace Ev
open Go Go.RowKit
variable {P:Program} {G:List GV}
inductive Ex | normal | ret | exit (id:Nat)
deriving DecidableEq
abbrev Outs:=List (Ex × Sig)
abbrev Out:Outs→Type
 | []=>Empty
 | [o]=>Tup (sigTys o.2)
 | o :: q :: l=>Tup (sigTys o.2) ⊕ Out (q :: l)
structure LFn where
 head:Sig
 outs:Outs
 f:Tup (sigTys head)→Option (Out outs)
structure CutAt where
 at_:Nat
 outs:Outs
structure LAt where
 id:Nat
 l:LFn
section
variable {γ:Type}
def exEq:Ex→Ex→Bool | .normal,.normal=>true | .ret,.ret=>true | .exit i,.exit j=>Nat.beq i j | _,_=>false
def injK:(os:Outs)→Ex→List SV→List SV→(List SV→List SV→Out os→Option γ)→Option γ
 | [],_,_,_,_=>none
 | [o],ex,fr,hp,K=>match o with
  |(e,sg)=>cond (exEq e ex) (runK (P:=P) (G:=G) (capA sg fun x=>.pure x) fr hp fun x fr hp=>K fr hp x) none
 | o :: q :: l,ex,fr,hp,K=>match o with
  |(e,sg)=>cond (exEq e ex) (runK (P:=P) (G:=G) (capA sg fun x=>.pure x) fr hp fun x fr hp=>K fr hp (.inl x)) (injK (q :: l) ex fr hp fun fr hp y=>K fr hp (.inr y))
def projK:(os:Outs)→Out os→Nat→Nat→(Ex→List SV→List SV→Option γ)→Option γ
 | [],_,_,_,_=>none
 | [o],x,nf,nh,K=>match o,x with
  |(e,sg),x=>resK (fun i=>i) (fun _=>0) sg x (List.replicate nf .none) (List.replicate nh .none) fun fr hp=>K e fr hp
 | o :: q :: l,x,nf,nh,K=>match o,x with
  |(e,sg),x=>Sum.elim (fun y=>resK (fun i=>i) (fun _=>0) sg y (List.replicate nf .none) (List.replicate nh .none) fun fr hp=>K e fr hp) (fun y=>projK (q :: l) y nf nh K) x
def lookL (k:LFn→Option γ):List LAt→Nat→Option γ
 | [],_=>none
 | a :: L,n=>cond (Nat.beq a.id n) (k a.l) (lookL k L n)
def guardA {α:Type} (ops:Array Oper) (o:Oper) (m skip:Acc P G α):Acc P G α:=match o.guard with
 | none=>m
 | some (j,want)=>match (ops[j]?).bind (·.dst) with
  | some d=>.bs d (cond want m skip) (cond want skip m) skip
  | none=>.fail
def operA (T:Tab) (env:List (Kn P G)) (nt nh:Nat) (ops:Array Oper) (o:Oper):Acc P G Unit:=guardA ops o (opA T env nt nh o) (setD o.dst (.tup []) (.pure ()))
def opsK (T:Tab) (env:List (Kn P G)) (nt nh:Nat) (ops:Array Oper):List Oper→List SV→List SV→(List SV→List SV→Option γ)→Option γ
 | [],fr,hp,K=>K fr hp
 | o :: l,fr,hp,K=>runK (operA T env nt nh ops o) fr hp fun _ fr hp=>opsK T env nt nh ops l fr hp K
def bitN (m i:Nat):Nat:=Nat.lor m (Nat.shiftLeft 1 i)
def runF {α:Type}:Acc P G α→List SV→List SV→Nat→Nat→(α→List SV→List SV→Nat→Nat→Option γ)→Option γ
 | .pure a,fr,hp,R,W,K=>K a fr hp R W
 | .fail,_,_,_,_,_=>none
 | .rd b i k,fr,hp,R,W,K=>match b with
  | false=>forceN (bitN R (2 * i)) fun R=>nthK fr i fun v=>runF (k v) fr hp R W K
  | true=>forceN (bitN R (2 * i + 1)) fun R=>nthK hp i fun v=>runF (k v) fr hp R W K
 | .wr b i v k,fr,hp,R,W,K=>match b with
  | false=>forceN (bitN W (2 * i)) fun W=>putK fr i v fun fr=>runF k fr hp R W K
  | true=>forceN (bitN W (2 * i + 1)) fun W=>putK hp i v fun hp=>runF k fr hp R W K
 | .br c x y,fr,hp,R,W,K=>cond c (runF x fr hp R W K) (runF y fr hp R W K)
 | .bs i x y u,fr,hp,R,W,K=>forceN (bitN R (2 * i)) fun R=>nthK fr i fun v=>match v with
  | .imm .bool b=>cond b (putK fr i (.imm .bool true) fun fr=>runF x fr hp R W K) (putK fr i (.imm .bool false) fun fr=>runF y fr hp R W K)
  | .tup []=>runF u fr hp R W K
  | _=>none
 | .ask e x k,fr,hp,R,W,K=>(e.f x).bind fun y=>elimS e.outs y fun sg y=>runF (k sg y) fr hp R W K
def maskOf (ms:List Nat):List Edge→Nat
 | []=>0
 | e :: es=>cond (Region.binds .any e) (Nat.lor (bitN (ms.getD e.on 0) e.on) (maskOf ms es)) (maskOf ms es)
def disN (R W R' W':Nat):Bool:=Nat.beq (Nat.land W (Nat.lor R' W')) 0 && Nat.beq (Nat.land W' R) 0
def chkP (mj R W:Nat):Nat→List (Nat × Nat)→Bool
 | _,[]=>true
 | i,p :: tr=>match p with | (Ri,Wi)=>cond (Nat.testBit mj i) true (disN Ri Wi R W) && chkP mj R W (i + 1) tr
def edgeOk (n:Nat):List Edge→Bool
 | []=>true
 | e :: es=>cond (Region.binds .any e) (Nat.blt e.on n) true && edgeOk n es
def opsF (T:Tab) (env:List (Kn P G)) (nt nh:Nat) (ops:Array Oper):List Oper→List Nat→List (Nat × Nat)→List SV→List SV→(List SV→List SV→Option γ)→Option γ
 | [],_,_,fr,hp,K=>K fr hp
 | o :: l,ms,tr,fr,hp,K=>runF (operA T env nt nh ops o) fr hp 0 0 fun _ fr hp R W=>forceN (maskOf ms o.after.toList) fun mj =>
  cond (edgeOk ms.length o.after.toList && chkP mj R W 0 tr) (opsF T env nt nh ops l (ms ++ [mj]) (tr ++ [(R,W)]) fr hp K) none
def loopK (L:List LAt) (id:Nat) (nf nh:Nat) (fr hp:List SV) (K:Ex→List SV→List SV→Option γ):Option γ :=
 lookL (fun l=>runK (P:=P) (G:=G) (capA l.head fun x=>.pure x) fr hp fun x _ _=>(l.f x).bind fun y=>projK l.outs y nf nh K) L id
end
def firstRegion:Code→Option Nat
 | .region id _ _=>some id | .seq a _=>firstRegion a | .block _ b=>firstRegion b | .loop b=>firstRegion b | _=>none
def lookC:List CutAt→Nat→Option Outs
 | [],_=>none
 | c :: l,n=>cond (Nat.beq c.at_ n) (some c.outs) (lookC l n)
def cutOf (C:List CutAt) (c:Code):Option Outs:=match firstRegion c with | some n=>lookC C n | none=>none
def regK {γ:Type} (T:Tab) (env:List (Kn P G)) (nt nh:Nat) (ops:Array Oper) (d:Bool) (fr hp:List SV) (K:List SV→List SV→Option γ):Option γ:=match d with
 | false=>opsK T env nt nh ops ops.toList fr hp K
 | true=>opsF T env nt nh ops ops.toList [] [] fr hp K
def codeK (T:Tab) (env:List (Kn P G)) (nt nh:Nat) (L:List LAt) (C:List CutAt):Code→Nat→List SV→List SV→{γ:Type}→(Ex→List SV→List SV→Option γ)→Option γ
 | .skip,_,fr,hp,_,K=>K .normal fr hp
 | .region id ops d,_,fr,hp,_,K=>match lookC C (id + far) with
  | none=>regK T env nt nh ops d fr hp fun fr hp=>K .normal fr hp
  | some os=>(regK T env nt nh ops d fr hp fun fr hp=>injK (P:=P) (G:=G) os .normal fr hp fun _ _ x=>some x).bind fun y=>projK os y nt nh K
 | .seq a b,p,fr,hp,γ,K =>
  let next (K:Ex→List SV→List SV→Option γ):Ex→List SV→List SV→Option γ:=fun e fr hp=>match e with | .normal=>codeK T env nt nh L C b p fr hp K | .ret=>K .ret fr hp | .exit i=>K (.exit i) fr hp
  match cutOf C b with
  | none=>codeK T env nt nh L C a p fr hp (next K)
  | some os=>(codeK T env nt nh L C a p fr hp fun e fr hp=>injK (P:=P) (G:=G) os e fr hp fun _ _ x=>some x).bind fun y=>projK os y nt nh (next K)
 | .cond c a b,p,fr,hp,_,K=>match c with
  | .tmp i=>nthK fr i fun v=>match v with
   | .imm .bool t=>cond t (putK fr i (.imm .bool true) fun fr=>codeK T env nt nh L C a p fr hp K) (putK fr i (.imm .bool false) fun fr=>codeK T env nt nh L C b p fr hp K)
   | _=>none
  | .const (.bool t)=>cond t (codeK T env nt nh L C a p fr hp K) (codeK T env nt nh L C b p fr hp K)
  | _=>none
 | .block i b,_,fr,hp,_,K=>codeK T env nt nh L C b i fr hp fun e fr hp=>match e with
  | .normal=>K .normal fr hp | .ret=>K .ret fr hp
  | .exit j=>cond (Nat.beq i j) (K .normal fr hp) (K (.exit j) fr hp)
 | .loop _,p,fr,hp,_,K=>loopK (P:=P) (G:=G) L p nt nh fr hp K
 | .exit i,_,fr,hp,_,K=>K (.exit i) fr hp
 | .ret,_,fr,hp,_,K=>K .ret fr hp
 | _,_,_,_,_,_=>none
section
variable {γ:Type}
def resCellA (T:Tab) (t:TypeId) (v:SV):Acc P G SV:=tyA T t fun u=>match v with
 | .ptr id ver p u'=>eqA u' u (.rd true id fun b=>(match b with
  | .none=>.fail | .dead _=>.fail | .row _ _ _ _ _=>.fail | .mp _ _ _=>.fail
  | b=>cond (Nat.beq ver 0) (getA p b .pure) .fail))
 | _=>.fail
def resFr (T:Tab):List ResultVar→List SV→List SV→(List SV→Option γ)→Option γ
 | [],_,_,K=>K []
 | v :: l,fr,hp,K=>match v with
  | .tmp i=>nthK fr i fun x=>resFr T l fr hp fun xs=>K (x :: xs)
  | .cell i t=>nthK fr i fun v=>runK (P:=P) (G:=G) (resCellA T t v) fr hp fun x _ _=>resFr T l fr hp fun xs=>K (x :: xs)
def selK {P:Program} {G:List GV}:(outs:List Sig)→List SV→List SV→(OutS outs→Option γ)→Option γ
 | [],_,_,_=>none
 | [s],fr,hp,K=>runK (P:=P) (G:=G) (capA s fun y=>.pure y) fr hp fun y _ _=>K y
 | s :: q :: l,fr,hp,K=>cond (fitArgs fr s) (runK (P:=P) (G:=G) (capA s fun y=>.pure y) fr hp fun y _ _=>K (.inl y)) (selK (P:=P) (G:=G) (q :: l) fr hp fun y=>K (.inr y))
def padK:List SV→Nat→(List SV→γ)→γ
 | [],n,K=>K (List.replicate n (.tup []))
 | x :: xs,n,K=>padK xs (n - 1) fun l=>K (x :: l)
end
def loopIn:Code→Nat→Nat→Option Code
 | .seq a b,p,id=>match loopIn a p id with | some c=>some c | none=>loopIn b p id
 | .cond _ a b,p,id=>match loopIn a p id with | some c=>some c | none=>loopIn b p id
 | .block i b,_,id=>loopIn b i id
 | .loop b,p,id=>cond (Nat.beq p id) (some b) (loopIn b p id)
 | _,_,_=>none
def loopOf (fn:Func) (id:Nat):Code:=(loopIn (fn.body.getD .skip) 0 id).getD .skip
def fnK (T:Tab) (env:List (Kn P G)) (L:List LAt) (C:List CutAt) (fn:Func) (n nh:Nat) (hd:Sig) (outs:List Sig) (x:Tup (sigTys hd)):Option (OutS outs) :=
 resK (fun i=>i) (fun _=>0) hd x (List.replicate n .none) (List.replicate nh .none) fun fr hp=>padK fr fn.ntmps fun fr =>
  codeK T env fn.ntmps nh L C (fn.body.getD .skip) 0 fr hp fun e fr hp=>match e with
   | .exit _=>none
   | _=>resFr (P:=P) (G:=G) T fn.results.toList fr hp fun fr=>selK (P:=P) (G:=G) outs fr hp some
def roundK (T:Tab) (env:List (Kn P G)) (nt nh:Nat) (L:List LAt) (C:List CutAt) (body:Code) (id:Nat) (head:Sig) (outs:Outs) (again:Tup (sigTys head)→Option (Out outs)) (x:Tup (sigTys head)):Option (Out outs) :=
 resK (fun i=>i) (fun _=>0) head x (List.replicate nt .none) (List.replicate nh .none) fun fr hp =>
  codeK T env nt nh L C body id fr hp fun e fr hp=>match e with
   | .normal=>runK (P:=P) (G:=G) (capA head fun x=>.pure x) fr hp fun x _ _=>again x
   | .ret=>injK (P:=P) (G:=G) outs .ret fr hp fun _ _ y=>some y
   | .exit j=>injK (P:=P) (G:=G) outs (.exit j) fr hp fun _ _ y=>some y
end Ev
end Go.Proofs.YtlfcdmibknmjeaaGreatDoor
namespace Go.Proofs.YtlfcdmibknmjeaaGreatDoor
namespace Ev
open Go Go.RowKit
theorem Ext.refl (w:World) (N:Reg):Ext w N w N:=fun _ _ h=>⟨h,rfl⟩
theorem Ext.trans {w w1 w2:World} {N N1 N2:Reg} (h:Ext w N w1 N1) (k:Ext w1 N1 w2 N2):Ext w N w2 N2 :=
 fun b o hb=>⟨(k b o (h b o hb).1).1,((k b o (h b o hb).1).2).trans (h b o hb).2⟩
theorem cell_spot {w:World} {a:Addr} {v:Value} (h:w.cell? a=some v):a.spot=none:=by
 unfold World.cell? at h
 split at h
 ·split at h
  ·cases h
  ·rename_i hs
   cases hh:a.spot with
   | none=>rfl
   | some x=>simp [hh] at hs
 ·cases h
theorem At.ext {w w':World} {N N':Reg} {a:Addr} {cs:List Value} (hE:Ext w N w' N') (h:At w N a cs):At w' N' a cs:=by
 intro j hj
 obtain ⟨h1,h2⟩:=h j hj
 obtain ⟨h3,h4⟩:=hE _ _ h1
 refine ⟨h3,?_⟩
 have hs:=cell_spot h2
 generalize a.add j=b at *
 obtain ⟨bb,bo,bs⟩:=b
 cases hs
 exact h4.trans h2
theorem rel_ext {w w':World} {N N':Reg} (hE:Ext w N w' N'):∀ (t:Ty) (x:t.denote) (cs:List Value),rel w N t x cs→rel w' N' t x cs
 | .int _,_,_,h=>h
 | .bool,_,_,h=>h
 | .str,_,_,h=>h
 | .unit,_,_,h=>h
 | .opq,_,_,h=>h
 | .pair a b,x,cs,h=>by
  obtain ⟨c1,c2,e,h1,h2⟩:=h
  exact ⟨c1,c2,e,rel_ext hE a _ _ h1,rel_ext hE b _ _ h2⟩
 | .list t,xs,cs,h=>by
  obtain ⟨A,cap,e,hc,h⟩:=h
  refine ⟨A,cap,e,hc,fun i hi=>?_⟩
  obtain ⟨ad,c,eA,h1,h2⟩:=h i hi
  exact ⟨ad,c,eA,rel_ext hE t _ _ h1,h2.ext hE⟩
 | .arr n t,xs,cs,h=>by
  obtain ⟨hn,css,e,hl,h⟩:=h
  exact ⟨hn,css,e,hl,fun i hi hi'=>rel_ext hE t _ _ (h i hi hi')⟩
theorem flatten_len {α:Type} {n:Nat}:∀ (css:List (List α)),(∀ c ∈ css,c.length=n)→css.flatten.length=css.length * n
 | [],_=>by simp
 | c :: css,h=>by
  simp only [List.flatten_cons,List.length_append,List.length_cons]
  rw [h c (by simp),flatten_len css (fun d hd=>h d (by simp [hd])),Nat.succ_mul]
  omega
theorem rel_len {w:World} {N:Reg}:∀ (t:Ty) (x:t.denote) (cs:List Value),rel w N t x cs→cs.length=t.size
 | .int _,_,_,h=>by cases h;rfl
 | .bool,_,_,h=>by cases h;rfl
 | .str,_,_,h=>by cases h;rfl
 | .unit,_,_,h=>by cases h;rfl
 | .opq,_,_,h=>by obtain ⟨v,rfl,_⟩:=h;rfl
 | .pair a b,x,cs,h=>by
  obtain ⟨c1,c2,rfl,h1,h2⟩:=h
  simp only [List.length_append,Ty.size]
  rw [rel_len a _ _ h1,rel_len b _ _ h2]
 | .list t,xs,cs,h=>by obtain ⟨A,cap,rfl,_⟩:=h;rfl
 | .arr n t,xs,cs,h=>by
  obtain ⟨hn,css,rfl,hl,h⟩:=h
  simp only [Ty.size]
  rw [flatten_len css (n:=t.size),hl]
  intro c hc
  obtain ⟨i,hi,rfl⟩:=List.getElem_of_mem hc
  exact rel_len t _ _ (h i (by omega) hi)
theorem IsImm.ext {w w':World} {N N':Reg} {t:Ty} {x:t.denote} {v:Value} (hE:Ext w N w' N') (h:IsImm w N t x v):IsImm w' N' t x v:=by
 obtain ⟨cs,h1,h2⟩:=h
 exact ⟨cs,rel_ext hE _ _ _ h1,h2⟩
theorem rel_single {w:World} {N:Reg} {t:Ty} (ht:t.isAgg=false) {x:t.denote} {cs:List Value} (h:rel w N t x cs):∃ c,cs=[c]:=by
 have hl:=rel_len t x cs h
 cases t <;> simp [Ty.isAgg] at ht <;> simp only [Ty.size] at hl <;>
 ·match cs,hl with
  | [c],_=>exact ⟨c,rfl⟩
section
variable {β β':Nat→BI} {hp hp':List SV} {w w':World} {N N':Reg}
def Later (β:Nat→BI) (hp:List SV) (β':Nat→BI) (hp':List SV):Prop:=∀ id,nth hp id ≠ .none→nth hp' id ≠ .none ∧
 (bver (nth hp id) < bver (nth hp' id) ∨ (bver (nth hp' id)=bver (nth hp id)∧β' id=β id ∧
  (∀ p,inBox (β id).bt (nth hp' id) p=inBox (β id).bt (nth hp id) p)∧kindB (nth hp' id)=kindB (nth hp id)))
theorem kind_row {b:SV} (h:kindB b=1):∃ v sh e t xs,b=.row v sh e t xs:=by
 cases b <;> simp [kindB] at h
 exact ⟨_,_,_,_,_,rfl⟩
theorem kind_mp {b:SV} (h:kindB b=2):∃ kt vt l,b=.mp kt vt l:=by
 cases b <;> simp [kindB] at h
 exact ⟨_,_,_,rfl⟩
theorem Later.refl (β:Nat→BI) (hp:List SV):Later β hp β hp:=fun _ h=>⟨h,.inr ⟨rfl,rfl,fun _=>rfl,rfl⟩⟩
theorem PtrR.later (hL:Later β hp β' hp') {id ver:Nat} {p:List Step} {t:Ty} {v:Value} (h:PtrR β hp id ver p t v):PtrR β' hp' id ver p t v:=by
 obtain ⟨h1,h2,h2',h3⟩:=h
 obtain ⟨k1,k2⟩:=hL id h1
 refine ⟨k1,?_,h2',fun hr=>?_⟩
 ·rcases k2 with k2 | k2
  ·omega
  ·rw [k2.1];exact h2
 ·rcases k2 with k2 | ⟨ka,kb,kc,kd⟩
  ·omega
  ·obtain ⟨o,ho,hv⟩:=h3 (hr.trans ka)
   exact ⟨o,by rw [kb,kc];exact ho,by rw [kb];exact hv⟩
theorem LR.later (hL:Later β hp β' hp') (hE:Ext w N w' N') {sv:SV} {v:Value} (h:LR β hp w N sv v):LR β' hp' w' N' sv v:=by
 cases sv with
 | own id ver =>
  obtain ⟨h1,h2,h2',h3⟩:=h
  obtain ⟨k1,k2⟩:=hL id h1
  refine ⟨k1,?_,h2',fun sh e t xs hr=>?_⟩
  ·rcases k2 with k2 | k2
   ·omega
   ·rw [k2.1];exact h2
  ·rcases k2 with k2 | ⟨ka,kb,_,kd⟩
   ·rw [hr] at k2
    have k2:bver (nth hp id) < ver:=k2
    omega
   ·obtain ⟨v',sh',e',t',xs',hv⟩:=kind_row (kd.symm.trans (by rw [hr];rfl))
    rw [hr,hv] at ka
    simp only [bver] at ka
    subst ka
    rw [kb]
    exact h3 _ _ _ _ hv
 | ptr id ver p t =>
  obtain ⟨h1,h2,h2',h3⟩:=h
  obtain ⟨k1,k2⟩:=hL id h1
  refine ⟨k1,?_,h2',fun hr=>?_⟩
  ·rcases k2 with k2 | k2
   ·omega
   ·rw [k2.1];exact h2
  ·rcases k2 with k2 | ⟨ka,kb,kc,kd⟩
   ·omega
   ·obtain ⟨o,ho,hv⟩:=h3 (hr.trans ka)
    exact ⟨o,by rw [kb,kc];exact ho,by rw [kb];exact hv⟩
 | sub id ver i n t =>
  obtain ⟨h1,h2,h2',h3⟩:=h
  obtain ⟨k1,k2⟩:=hL id h1
  refine ⟨k1,?_,h2',fun sh e t xs hr=>?_⟩
  ·rcases k2 with k2 | k2
   ·omega
   ·rw [k2.1];exact h2
  ·rcases k2 with k2 | ⟨ka,kb,_,kd⟩
   ·rw [hr] at k2
    have k2:bver (nth hp id) < ver:=k2
    omega
   ·obtain ⟨v',sh',e',t',xs',hv⟩:=kind_row (kd.symm.trans (by rw [hr];rfl))
    rw [hr,hv] at ka
    simp only [bver] at ka
    subst ka
    rw [kb]
    exact h3 _ _ _ _ hv
 | clo f cs =>
  obtain ⟨us,e,hl,hu⟩:=h
  exact ⟨us,e,hl,fun i hi=>by obtain ⟨id,ver,p,t,e1,e2⟩:=hu i hi;exact ⟨id,ver,p,t,e1,e2.later hL⟩⟩
 | iptr t x =>
  obtain ⟨ad,cs,h1,h2,h3⟩:=h
  exact ⟨ad,cs,h1,rel_ext hE _ _ _ h2,h3.ext hE⟩
 | mph id =>
  obtain ⟨h1,h2,h3⟩:=h
  obtain ⟨k1,k2⟩:=hL id h1
  refine ⟨k1,h2,fun kt vt l hm=>?_⟩
  rcases k2 with k2 | ⟨_,kb,_,kd⟩
  ·rw [hm] at k2
   exact (Nat.not_lt_zero _ k2).elim
  ·obtain ⟨kt',vt',l',hm'⟩:=kind_mp (kd.symm.trans (by rw [hm];rfl))
   rw [kb];exact h3 _ _ _ hm'
 | _=>first | exact h | exact h.elim
theorem LeafC.later (hL:Later β hp β' hp') (hE:Ext w N w' N') {t:Ty} {sv:SV} {cs:List Value} (h:LeafC β hp w N t sv cs):LeafC β' hp' w' N' t sv cs:=by
 cases sv with
 | imm t' x=>exact ⟨h.1,rel_ext hE _ _ _ h.2⟩
 | nilS=>obtain ⟨h1,c,h2,h3⟩:=h;exact ⟨h1,c,h2,h3⟩
 | nilP=>obtain ⟨h1,c,h2,h3⟩:=h;exact ⟨h1,c,h2,h3⟩
 | own id ver=>obtain ⟨h1,c,h2,h3⟩:=h;exact ⟨h1,c,h2,LR.later hL hE h3⟩
 | ptr id ver p t=>obtain ⟨h1,c,h2,h3⟩:=h;exact ⟨h1,c,h2,LR.later hL hE h3⟩
 | mph id=>obtain ⟨h1,c,h2,h3⟩:=h;exact ⟨h1,c,h2,LR.later hL hE h3⟩
 | _=>exact h.elim
theorem CR.later (hL:Later β hp β' hp') (hE:Ext w N w' N') (t:Ty) (tl:Bool) (sv:SV) (vs:List SV) (cs:List Value) (h:CR β hp w N t tl sv vs cs):CR β' hp' w' N' t tl sv vs cs:=by
 induction t generalizing tl sv vs cs with
 | pair a b iha ihb =>
  cases tl with
  | true =>
   cases vs with
   | nil=>exact (h:False).elim
   | cons v vs =>
    obtain ⟨c1,c2,e,h1,h2⟩:=(h:∃ c1 c2,cs=c1 ++ c2∧CR β hp w N a false v [] c1∧CR β hp w N b true .none vs c2)
    exact (⟨c1,c2,e,iha _ _ _ _ h1,ihb _ _ _ _ h2⟩:∃ c1 c2,cs=c1 ++ c2∧CR β' hp' w' N' a false v [] c1∧CR β' hp' w' N' b true .none vs c2)
  | false =>
   cases sv with
   | agg t' ws =>
    cases ws with
    | nil=>exact ((h:t'=.pair a b∧False).2).elim
    | cons v ws =>
     obtain ⟨et,c1,c2,e,h1,h2⟩:=(h:t'=.pair a b∧∃ c1 c2,cs=c1 ++ c2∧CR β hp w N a false v [] c1∧CR β hp w N b true .none ws c2)
     exact (⟨et,c1,c2,e,iha _ _ _ _ h1,ihb _ _ _ _ h2⟩:t'=.pair a b∧∃ c1 c2,cs=c1 ++ c2∧CR β' hp' w' N' a false v [] c1∧CR β' hp' w' N' b true .none ws c2)
   | _=>first | exact LeafC.later hL hE h | exact (LeafC.later (t:=.pair a b) hL hE h)
 | unit =>
  cases tl with
  | true=>exact h
  | false=>cases sv with
   | agg t' ws=>exact h
   | _=>exact LeafC.later (t:=.unit) hL hE h
 | int k=>cases tl with | true=>exact (h:False).elim | false=>exact LeafC.later (t:=.int k) hL hE h
 | bool=>cases tl with | true=>exact (h:False).elim | false=>exact LeafC.later (t:=.bool) hL hE h
 | str=>cases tl with | true=>exact (h:False).elim | false=>exact LeafC.later (t:=.str) hL hE h
 | list t=>cases tl with | true=>exact (h:False).elim | false=>exact LeafC.later (t:=.list t) hL hE h
 | arr n t=>cases tl with | true=>exact (h:False).elim | false=>exact LeafC.later (t:=.arr n t) hL hE h
 | opq=>cases tl with | true=>exact (h:False).elim | false=>exact LeafC.later (t:=.opq) hL hE h
theorem VR1.later (hL:Later β hp β' hp') (hE:Ext w N w' N') {sv:SV} {v:Value} (h:VR1 β hp w N sv v):VR1 β' hp' w' N' sv v:=by
 cases sv with
 | imm t x=>exact IsImm.ext hE h
 | agg t vs=>obtain ⟨cs,h1,h2⟩:=h;exact ⟨cs,h1,CR.later hL hE _ _ _ _ _ h2⟩
 | none=>exact True.intro
 | nilS=>exact LR.later (sv:=.nilS) hL hE h
 | nilP=>exact LR.later (sv:=.nilP) hL hE h
 | own id ver=>exact LR.later (sv:=.own id ver) hL hE h
 | ptr id ver p t=>exact LR.later (sv:=.ptr id ver p t) hL hE h
 | iptr t x=>exact LR.later (sv:=.iptr t x) hL hE h
 | fn f=>exact LR.later (sv:=.fn f) hL hE h
 | mph id=>exact LR.later (sv:=.mph id) hL hE h
 | sub id ver i n t=>exact LR.later (sv:=.sub id ver i n t) hL hE h
 | clo f cs=>exact LR.later (sv:=.clo f cs) hL hE h
 | mp a b c=>exact (h:False).elim
 | dead a=>exact (h:False).elim
 | tup vs=>exact (h:False).elim
 | row a b c d e=>exact (h:False).elim
theorem VR.later (hL:Later β hp β' hp') (hE:Ext w N w' N') {sv:SV} {v:Value} (h:VR β hp w N sv v):VR β' hp' w' N' sv v:=by
 cases sv with
 | tup vs=>obtain ⟨us,h1,h2,h3⟩:=h;exact ⟨us,h1,h2,fun i hi=>VR1.later hL hE (h3 i hi)⟩
 | none=>exact True.intro
 | nilS=>exact VR1.later (sv:=.nilS) hL hE h
 | nilP=>exact VR1.later (sv:=.nilP) hL hE h
 | imm t x=>exact VR1.later (sv:=.imm t x) hL hE h
 | agg t x=>exact VR1.later (sv:=.agg t x) hL hE h
 | own id ver=>exact VR1.later (sv:=.own id ver) hL hE h
 | ptr id ver p t=>exact VR1.later (sv:=.ptr id ver p t) hL hE h
 | iptr t x=>exact VR1.later (sv:=.iptr t x) hL hE h
 | fn f=>exact VR1.later (sv:=.fn f) hL hE h
 | mph id=>exact VR1.later (sv:=.mph id) hL hE h
 | sub id ver i n t=>exact VR1.later (sv:=.sub id ver i n t) hL hE h
 | clo f cs=>exact VR1.later (sv:=.clo f cs) hL hE h
 | mp a b c=>exact (h:False).elim
 | dead a=>exact (h:False).elim
 | row a b c d e=>exact (h:False).elim
end
end Ev
end Go.Proofs.YtlfcdmibknmjeaaGreatDoor
namespace Go.Proofs.YtlfcdmibknmjeaaGreatDoor
namespace Ev
open Go Go.RowKit
def zArr (f:List Value→Bool) (k:Nat):Nat→List Value→Bool
 | 0,cs=>cs.isEmpty
 | n + 1,cs=>f (cs.take k) && zArr f k n (cs.drop k)
def zChk:Ty→List Value→Bool
 | .int k,cs=>match cs with | [.int k' n]=>decide (k'=k) && decide (n=0) | _=>false
 | .bool,cs=>match cs with | [.bool b]=>!b | _=>false
 | .str,cs=>match cs with | [.string s]=>decide (s.size=0) | _=>false
 | .unit,cs=>cs.isEmpty
 | .pair a b,cs=>zChk a (cs.take a.size) && zChk b (cs.drop a.size)
 | .list _,cs=>match cs with | [.slice none 0 0]=>true | _=>false
 | .arr n t,cs=>zArr (zChk t) t.size n cs
 | .opq,cs=>match cs with | [v]=>v.oneCell' | _=>false
def infoChk (P:Program) (t:Ty) (id:TypeId):Bool:=match P.info? id with
 | some i=>decide (i.size=t.size) && decide (i.bytes ≤ 2048) && (match i.zero with | some z=>zChk t z.cells.toList | none=>false)
 | none=>false
def undChk (P:Program) (id:TypeId) (f:TypeDesc→Bool):Bool:=match P.underlying id with | some d=>f d | none=>false
def tyChk (P:Program):Ty→Option (List Field × Nat)→TypeId→Bool
 | .int k,none,id=>undChk P id (fun d=>match d with | .int k'=>decide (k'=k) | _=>false) && infoChk P (.int k) id
 | .bool,none,id=>undChk P id (fun d=>match d with | .bool=>true | _=>false) && infoChk P .bool id
 | .str,none,id=>undChk P id (fun d=>match d with | .string=>true | _=>false) && infoChk P .str id
 | .opq,none,id=>undChk P id (fun d=>match d with | .struct _ | .array _ _=>false | _=>true) && infoChk P .opq id
 | .list t,none,id=>undChk P id (fun d=>match d with | .slice e=>tyChk P t none e && decide (0 < t.size) | _=>false) && infoChk P (.list t) id
 | .arr n t,none,id=>undChk P id (fun d=>match d with | .array m e=>decide (m=n) && tyChk P t none e && decide (0 < t.size) | _=>false) && infoChk P (.arr n t) id
 | .unit,none,id=>undChk P id (fun d=>match d with | .struct fs=>fs.toList.isEmpty | _=>false) && infoChk P .unit id
 | .unit,some (fs,_),_=>fs.isEmpty
 | .pair a b,none,id=>undChk P id (fun d=>match d with
  | .struct fs=>(match fs.toList with | f :: fs=>decide (f.offset=0) && decide (0 < a.size) && tyChk P a none f.type && tyChk P b (some (fs,a.size)) 0 | []=>false)
  | _=>false) && infoChk P (.pair a b) id
 | .pair a b,some (fs,o),_=>match fs with | f :: fs=>decide (f.offset=o) && decide (0 < a.size) && tyChk P a none f.type && tyChk P b (some (fs,o + a.size)) 0 | []=>false
 | _,some _,_=>false
def Ty.high:Ty→Nat | .pair a b=>max (a.high + 1) b.high | .arr _ t=>t.high + 1 | _=>0
def eqChk (P:Program):Ty→Option (List Field)→TypeId→Bool
 | .int _,none,_ | .bool,none,_ | .str,none,_=>true
 | .pair a b, none, id => undChk P id (fun d => match d with | .struct fs => !(P.stoodInHeld id) && (match fs.toList with | f :: fs => !(f.name == "_") && eqChk P a none f.type && eqChk P b (some fs) 0 | [] => false) | _ => false)
 | .pair a b, some fs, _ => (match fs with | f :: fs => !(f.name == "_") && eqChk P a none f.type && eqChk P b (some fs) 0 | [] => false)
 | .unit,some fs,_=>fs.isEmpty
 | .arr n t,none,id=>undChk P id (fun d=>match d with | .array m e=>decide (m=n) && eqChk P t none e | _=>false)
 | _,_,_=>false
def mapChk (P:Program) (id:TypeId) (q:MapT):Bool:=undChk P id (fun d=>match d with | .map k e=>decide (k=q.kn) && decide (e=q.vn) | _=>false) && tyChk P q.kt none q.kn && tyChk P q.vt none q.vn && eqChk P q.kt none q.kn && decide (q.kt.high ≤ 9998) && (match P.info? q.vn with | some i=>(match i.zero with | some z=>(match q.vt.isAgg with | true=>(match z with | .agg _=>true | _=>false) | false=>z.oneCell') | none=>false) | none=>false)
def tvChk (P:Program) (v:TV):Bool:=tyChk P v.t none v.n && (!v.eq || (match v.t with | .opq=>undChk P v.n (fun d=>match d with | .pointer _=>true | _=>false) | _=>v.t.isAgg && eqChk P v.t none v.n && !(P.eqGuardType P.depth v.n) && decide (v.t.high ≤ 9999))) && (match v.t with | .list t=>undChk P v.n (fun d=>match d with | .slice e=>decide (e=v.e) | _=>false) && tyChk P t none v.e | _=>true) && (match v.mp with | some q=>mapChk P v.n q | none=>true)
def tabChk (P:Program) (T:Tab):Bool:=T.all (tvChk P)
variable {P:Program}
theorem undChk_some {id:TypeId} {f:TypeDesc→Bool} (h:undChk P id f=true):∃ d,P.underlying id=some d∧f d=true:=by
 unfold undChk at h
 split at h
 ·rename_i d hd;exact ⟨d,hd,h⟩
 ·cases h
structure InfoOk (P:Program) (t:Ty) (id:TypeId) (i:TypeInfo) (z:Value):Prop where
 info:P.info? id=some i
 size:i.size=t.size
 bytes:i.bytes ≤ 2048
 zero:i.zero=some z
 zok:zChk t z.cells.toList=true
theorem infoChk_some {t:Ty} {id:TypeId} (h:infoChk P t id=true):∃ i z,InfoOk P t id i z:=by
 unfold infoChk at h
 split at h
 ·rename_i i hi
  simp only [Bool.and_eq_true,decide_eq_true_eq] at h
  obtain ⟨⟨h1,h2⟩,h3⟩:=h
  split at h3
  ·rename_i z hz;exact ⟨i,z,hi,h1,h2,hz,h3⟩
  ·cases h3
 ·cases h
theorem tyChk_info {t:Ty} {id:TypeId} (h:tyChk P t none id=true):∃ i z,InfoOk P t id i z:=by
 cases t <;> simp only [tyChk,Bool.and_eq_true] at h <;> exact infoChk_some h.2
theorem tyChk_list {t:Ty} {id:TypeId} (h:tyChk P (.list t) none id=true):∃ e,P.underlying id=some (.slice e)∧tyChk P t none e=true∧0 < t.size:=by
 simp only [tyChk,Bool.and_eq_true] at h
 obtain ⟨d,hd,hf⟩:=undChk_some h.1
 split at hf
 ·rename_i e;simp only [Bool.and_eq_true,decide_eq_true_eq] at hf;exact ⟨e,hd,hf⟩
 ·cases hf
theorem tyChk_arr {n:Nat} {t:Ty} {id:TypeId} (h:tyChk P (.arr n t) none id=true):∃ e,P.underlying id=some (.array n e)∧tyChk P t none e=true∧0 < t.size:=by
 simp only [tyChk,Bool.and_eq_true] at h
 obtain ⟨d,hd,hf⟩:=undChk_some h.1
 split at hf
 ·rename_i m e
  simp only [Bool.and_eq_true,decide_eq_true_eq] at hf
  obtain ⟨⟨rfl,h2⟩,h3⟩:=hf
  exact ⟨e,hd,h2,h3⟩
 ·cases hf
theorem tyChk_int {k:IntKind} {id:TypeId} (h:tyChk P (.int k) none id=true):P.underlying id=some (.int k):=by
 simp only [tyChk,Bool.and_eq_true] at h
 obtain ⟨d,hd,hf⟩:=undChk_some h.1
 split at hf
 ·rename_i k';simp only [decide_eq_true_eq] at hf;rw [hd,hf]
 ·cases hf
theorem tyChk_bool {id:TypeId} (h:tyChk P .bool none id=true):P.underlying id=some .bool:=by
 simp only [tyChk,Bool.and_eq_true] at h
 obtain ⟨d,hd,hf⟩:=undChk_some h.1
 split at hf
 ·exact hd
 ·cases hf
theorem tyChk_str {id:TypeId} (h:tyChk P .str none id=true):P.underlying id=some .string:=by
 simp only [tyChk,Bool.and_eq_true] at h
 obtain ⟨d,hd,hf⟩:=undChk_some h.1
 split at hf
 ·exact hd
 ·cases hf
def Flds (P:Program):Ty→List Field→Nat→Prop
 | .unit,fs,_=>fs=[]
 | .pair a b,fs,o=>∃ f gs,fs=f :: gs∧f.offset=o∧0 < a.size∧tyChk P a none f.type=true∧Flds P b gs (o + a.size)
 | _,_,_=>False
theorem flds_some:∀ (t:Ty) (fs:List Field) (o:Nat),tyChk P t (some (fs,o)) 0=true→Flds P t fs o
 | .unit,fs,o,h=>by simpa [tyChk,Flds] using h
 | .pair a b,fs,o,h=>by
  cases fs with
  | nil=>simp [tyChk] at h
  | cons f gs =>
   simp only [tyChk,Bool.and_eq_true,decide_eq_true_eq] at h
   obtain ⟨⟨⟨h1,h2⟩,h3⟩,h4⟩:=h
   exact ⟨f,gs,rfl,h1,h2,h3,flds_some b gs _ h4⟩
 | .int _,_,_,h=>by simp [tyChk] at h
 | .bool,_,_,h=>by simp [tyChk] at h
 | .str,_,_,h=>by simp [tyChk] at h
 | .opq,_,_,h=>by simp [tyChk] at h
 | .list _,_,_,h=>by simp [tyChk] at h
 | .arr _ _,_,_,h=>by simp [tyChk] at h
theorem tyChk_struct {t:Ty} {id:TypeId} (h:tyChk P t none id=true) (ht:∀ n u,t ≠ .arr n u) (ha:t.isAgg=true):∃ fs,P.underlying id=some (.struct fs)∧Flds P t fs.toList 0:=by
 cases t <;> simp only [Ty.isAgg,Bool.false_eq_true] at ha
 ·simp only [tyChk,Bool.and_eq_true] at h
  obtain ⟨d,hd,hf⟩:=undChk_some h.1
  split at hf
  ·rename_i fs;exact ⟨fs,hd,by simpa [Flds] using hf⟩
  ·cases hf
 ·rename_i a b
  simp only [tyChk,Bool.and_eq_true] at h
  obtain ⟨d,hd,hf⟩:=undChk_some h.1
  split at hf
  ·rename_i fs
   split at hf
   ·rename_i f gs hfs
    simp only [Bool.and_eq_true,decide_eq_true_eq] at hf
    obtain ⟨⟨⟨h1,h2⟩,h3⟩,h4⟩:=hf
    refine ⟨fs,hd,?_⟩
    rw [hfs]
    exact ⟨f,gs,rfl,h1,h2,h3,by rw [Nat.zero_add];exact flds_some b gs _ h4⟩
   ·cases hf
  ·cases hf
 ·exact (ht _ _ rfl).elim
theorem flds_at:∀ (t:Ty) (fs:List Field) (o:Nat),Flds P t fs o→∀ n k u,fldOff t n=some (k,u)→∃ f,fs[n]?=some f∧f.offset=o + k∧0 < u.size∧tyChk P u none f.type=true
 | .pair a b,fs,o,h,0,k,u,hk=>by
  obtain ⟨f,gs,rfl,h1,h2,h3,h4⟩:=h
  simp only [fldOff,Option.some.injEq,Prod.mk.injEq] at hk
  obtain ⟨rfl,rfl⟩:=hk
  exact ⟨f,rfl,h1,h2,h3⟩
 | .pair a b,fs,o,h,n + 1,k,u,hk=>by
  obtain ⟨f,gs,rfl,h1,h2,h3,h4⟩:=h
  simp only [fldOff] at hk
  split at hk
  ·rename_i k' u' hk'
   simp only [Option.some.injEq,Prod.mk.injEq] at hk
   obtain ⟨rfl,rfl⟩:=hk
   obtain ⟨g,g1,g2,g3⟩:=flds_at b gs _ h4 n k' u' hk'
   exact ⟨g,by simpa using g1,by omega,g3⟩
  ·cases hk
 | .unit,_,_,_,_,_,_,hk=>by simp [fldOff] at hk
 | .int _,_,_,h,_,_,_,_=>h.elim
 | .bool,_,_,h,_,_,_,_=>h.elim
 | .str,_,_,h,_,_,_,_=>h.elim
 | .opq,_,_,h,_,_,_,_=>h.elim
 | .list _,_,_,h,_,_,_,_=>h.elim
 | .arr _ _,_,_,h,_,_,_,_=>h.elim
theorem run_isAgg {t:Ty} {id:TypeId} (h:tyChk P t none id=true) (w:World):(isAgg id).run P w=.ok t.isAgg w:=by
 unfold isAgg
 cases t with
 | int k=>simp [run_underlying (tyChk_int h),Ty.isAgg]
 | bool=>simp [run_underlying (tyChk_bool h),Ty.isAgg]
 | str=>simp [run_underlying (tyChk_str h),Ty.isAgg]
 | list t=>obtain ⟨e,he,_⟩:=tyChk_list h;simp [run_underlying he,Ty.isAgg]
 | arr n t=>obtain ⟨e,he,_⟩:=tyChk_arr h;simp [run_underlying he,Ty.isAgg]
 | unit=>obtain ⟨fs,hf,_⟩:=tyChk_struct h (by simp) rfl;simp [run_underlying hf,Ty.isAgg]
 | pair a b=>obtain ⟨fs,hf,_⟩:=tyChk_struct h (by simp) rfl;simp [run_underlying hf,Ty.isAgg]
 | opq =>
  simp only [tyChk,Bool.and_eq_true] at h
  obtain ⟨d,hd,hf⟩:=undChk_some h.1
  cases d <;> simp at hf <;> simp [run_underlying hd,Ty.isAgg]
theorem run_sizeOf' {t:Ty} {id:TypeId} (h:tyChk P t none id=true) (w:World):(sizeOf id).run P w=.ok t.size w:=by
 obtain ⟨i,z,hi⟩:=tyChk_info h
 simp [sizeOf,typeInfo,hi.info,hi.size]
theorem run_zero {t:Ty} {id:TypeId} (h:tyChk P t none id=true) (w:World):∃ z,(zeroValue id).run P w=.ok z w∧zChk t z.cells.toList=true:=by
 obtain ⟨i,z,hi⟩:=tyChk_info h
 exact ⟨z,by simp [zeroValue,typeInfo,hi.info,hi.zero],hi.zok⟩
theorem run_loadVar' {t:Ty} {id:TypeId} (h:tyChk P t none id=true) (w:World) (a:Addr) (cs:List Value) (hl:cs.length=t.size) (hc:∀ j (hj:j < cs.length),w.cell? (a.add j)=some cs[j]) :
 (loadVar id a).run P w=.ok (valOf t cs) w:=by
 unfold loadVar valOf
 have hag:=run_isAgg h w
 cases ht:t.isAgg with
 | true =>
  rw [ht] at hag
  have hld:=run_loadCells_list (P:=P) w a cs (fun j v hv=>by
   obtain ⟨hj,e⟩:=List.getElem?_eq_some_iff.1 hv
   rw [hc j hj,e])
  simp [hag,run_sizeOf' h,← hl,hld]
 | false =>
  rw [ht] at hag
  have h1:t.size=1:=by cases t <;> simp [Ty.isAgg] at ht <;> rfl
  obtain ⟨c,rfl⟩:∃ c,cs=[c]:=by
   match cs,(hl.trans h1) with
   | [c],_=>exact ⟨c,rfl⟩
  have h0:=hc 0 (by simp)
  rw [show a.add 0=a from rfl] at h0
  simp [hag,run_load,h0]
theorem run_part {t:Ty} {id:TypeId} (h:tyChk P t none id=true) (w:World) (pre cs post:List Value) (hl:cs.length=t.size) :
 (part id (pre ++ cs ++ post).toArray pre.length).run P w=.ok (valOf t cs) w:=by
 unfold part valOf
 have hag:=run_isAgg h w
 cases ht:t.isAgg with
 | true =>
  rw [ht] at hag
  simp only [Sem.run_bind,hag,Result.andThen_ok,if_true,run_sizeOf' h,Sem.run_pure]
  congr 2
  apply Array.ext'
  simp [hl.symm]
 | false =>
  rw [ht] at hag
  have h1:t.size=1:=by cases t <;> simp [Ty.isAgg] at ht <;> rfl
  obtain ⟨c,rfl⟩:∃ c,cs=[c]:=by
   match cs,(hl.trans h1) with
   | [c],_=>exact ⟨c,rfl⟩
  simp [hag]
end Ev
end Go.Proofs.YtlfcdmibknmjeaaGreatDoor
namespace Go.Proofs.YtlfcdmibknmjeaaGreatDoor
namespace Ev
open Go Go.RowKit
variable {G:List GV} {E:Entry} {fr hp:List SV} {tm:Array Value} {w:World} {β:Nat→BI} {N:Reg}
theorem len_put:∀ (xs:List SV) i v,(put xs i v).length=xs.length
 | [],_,_=>rfl | _ :: _,0,_=>rfl | _ :: xs,n + 1,v=>congrArg (· + 1) (len_put xs n v)
theorem nth_put_ne:∀ (xs:List SV) i j v,i ≠ j→nth (put xs i v) j=nth xs j
 | [],_,_,_,_=>rfl | _ :: _,0,0,_,h=>(h rfl).elim | _ :: _,0,_ + 1,_,_=>rfl | _ :: _,_ + 1,0,_,_=>rfl
 | _ :: xs,n + 1,m + 1,v,h=>nth_put_ne xs n m v (by omega)
theorem nth_put_eq:∀ (xs:List SV) i v,i < xs.length→nth (put xs i v) i=v
 | [],_,_,h=>by simp at h | _ :: _,0,_,_=>rfl | _ :: xs,n + 1,v,h=>nth_put_eq xs n v (by simpa using h)
theorem nth_far:∀ (xs:List SV) i,xs.length ≤ i→nth xs i=.none
 | [],_,_=>rfl | _ :: _,0,h=>by simp at h | _ :: xs,n + 1,h=>nth_far xs n (by simpa using h)
theorem put_far:∀ (xs:List SV) i v,xs.length ≤ i→put xs i v=xs
 | [],_,_,_=>rfl | _ :: _,0,_,h=>by simp at h | x :: xs,n + 1,v,h=>congrArg (x :: ·) (put_far xs n v (by simpa using h))
theorem nth_in {xs:List SV} {i:Nat} (h:nth xs i ≠ .none):i < xs.length:=by
 rcases Nat.lt_or_ge i xs.length with h' | h'
 ·exact h'
 ·exact (h (nth_far xs i h')).elim
theorem getD_set_eq (tm:Array Value) (d:Nat) (v:Value) (h:d < tm.size):(tm.setIfInBounds d v).getD d undef=v:=by
 simp [Array.getD_eq_getD_getElem?,h]
theorem getD_set_ne' (tm:Array Value) {d i:Nat} (v:Value) (h:d ≠ i):(tm.setIfInBounds d v).getD i undef=tm.getD i undef:=by
 simp [Array.getD_eq_getD_getElem?,h]
theorem Sim.putSlot (h:Sim G E fr hp tm w β N) (d:Nat) {sv:SV} {v:Value} (hv:VR β hp w N sv v):Sim G E (put fr d sv) hp (tm.setIfInBounds d v) w β N:=by
 refine { h with len:=by rw [len_put];simp [h.len],slot:=fun i=>?_ }
 rcases Nat.lt_or_ge d fr.length with hd | hd
 ·by_cases e:d=i
  ·subst e
   rw [nth_put_eq _ _ _ hd,getD_set_eq _ _ _ (by rw [h.len];exact hd)]
   exact hv
  ·rw [nth_put_ne _ _ _ _ e,getD_set_ne' _ _ e]
   exact h.slot i
 ·rw [put_far _ _ _ hd]
  have:=h.slot i
  rwa [Array.setIfInBounds_eq_of_size_le (by rw [h.len];exact hd)]
theorem Sim.setD (h:Sim G E fr hp tm w β N) (d:Option Nat) {sv:SV} {v:Value} (hv:VR β hp w N sv v) :
 Sim G E (match d with | none=>fr | some d=>put fr d sv) hp (match d with | none=>tm | some d=>tm.setIfInBounds d v) w β N:=by
 cases d with
 | none=>exact h
 | some d=>exact h.putSlot d hv
theorem RowAt.later {w':World} {N':Reg} {e:TypeId} {t:Ty} {sh:Bool} {xs:List t.denote} {v:Value} (hE:Ext w N w' N') (h:RowAt w N e t sh xs v)
 (hk:∀ g,v.ownBlock=some g→w'.heap[g]?=w.heap[g]?∧∀ o,N' g o→N g o):RowAt w' N' e t sh xs v:=by
 obtain ⟨⟨css,h1,h2,h3,h4⟩,h5⟩:=h
 refine ⟨⟨css,h1,fun i hi hi'=>rel_ext hE _ _ _ (h2 i hi hi'),h3,?_⟩,fun g hg o ho=>h5 g hg o ((hk g hg).2 o ho)⟩
 rcases h4 with h4 | ⟨g,cap,cur,e1,e2,e3,r⟩
 ·exact .inl h4
 ·exact .inr ⟨g,cap,cur,e1,e2,by rw [(hk g (by rw [e1];rfl)).1];exact e3,r⟩
theorem BR.later {β':Nat→BI} {hp':List SV} {w':World} {N':Reg} (hL:Later β hp β' hp') (hE:Ext w N w' N') {id:Nat} (hβ:β' id=β id) {b:SV} (h:BR β hp w N id b)
 (hk:∀ g,blkB (β id) b=some g→w'.heap[g]?=w.heap[g]?∧∀ o,N' g o→N g o):BR β' hp' w' N' id b:=by
 have cell:∀ b:SV,blkB (β id) b=some (β id).blk→(∃ cs e,w.heap[(β id).blk]?=some (.cells cs.toArray e (0,0))∧CR β hp w N (β id).bt false b [] cs∧∀ o,¬ N (β id).blk o) →
  (∀ g,blkB (β id) b=some g→w'.heap[g]?=w.heap[g]?∧∀ o,N' g o→N g o) →
  ∃ cs e,w'.heap[(β' id).blk]?=some (.cells cs.toArray e (0,0))∧CR β' hp' w' N' (β' id).bt false b [] cs∧∀ o,¬ N' (β' id).blk o:=by
  intro b hb ⟨cs,e,h1,h2,h3⟩ hk
  obtain ⟨k1,k2⟩:=hk _ hb
  rw [hβ]
  exact ⟨cs,e,by rw [k1];exact h1,CR.later hL hE _ _ _ _ _ h2,fun o ho=>h3 o (k2 o ho)⟩
 cases b with
 | none=>exact True.intro
 | dead v=>exact True.intro
 | row v sh e t xs =>
  obtain ⟨h1,h2⟩:=h
  exact ⟨by rw [hβ];exact RowAt.later hE h1 hk,by rw [hβ];exact h2⟩
 | nilS=>exact cell _ rfl h hk
 | nilP=>exact cell _ rfl h hk
 | imm t x=>exact cell _ rfl h hk
 | own i v=>exact cell _ rfl h hk
 | sub _ _ _ _ _=>exact cell _ rfl h hk
 | clo _ _=>exact cell _ rfl h hk
 | ptr i v p t=>exact cell _ rfl h hk
 | iptr t x=>exact cell _ rfl h hk
 | fn f=>exact cell _ rfl h hk
 | mph i=>exact cell _ rfl h hk
 | mp kt vt l =>
  obtain ⟨⟨es,c,h1,h2,h3⟩,h4⟩:=h
  obtain ⟨k1,k2⟩:=hk _ rfl
  refine ⟨⟨es,c,by rw [hβ,k1];exact h1,h2,fun i hi hi'=>⟨(h3 i hi hi').1.ext hE,(h3 i hi hi').2.ext hE⟩⟩,fun o ho=>h4 o (k2 o (by rw [hβ] at ho;exact ho))⟩
 | tup vs=>exact cell _ rfl h hk
 | agg t vs=>exact cell _ rfl h hk
def upd (β:Nat→BI) (id:Nat) (x:BI):Nat→BI:=fun i=>if i=id then x else β i
theorem upd_eq (β:Nat→BI) (id:Nat) (x:BI):upd β id x id=x:=by simp [upd]
theorem upd_ne (β:Nat→BI) {id i:Nat} (x:BI) (h:i ≠ id):upd β id x i=β i:=by simp [upd,h]
theorem upd_self (β:Nat→BI) (id:Nat):upd β id (β id)=β:=by funext i;unfold upd;split <;> simp_all
structure Turn (β:Nat→BI) (hp:List SV) (w:World) (N:Reg) (id:Nat) (x:BI) (b:SV) (w':World) (N':Reg):Prop where
 inr:id < hp.length
 ne:b ≠ .none
 ver:nth hp id=.none ∨ (kindB (nth hp id) ≤ 1∧bver (nth hp id) < bver b) ∨ (bver b=bver (nth hp id)∧x=β id∧(∀ p,inBox (β id).bt b p=inBox (β id).bt (nth hp id) p)∧kindB b=kindB (nth hp id))
 ext:Ext w N w' N'
 other:∀ i,i ≠ id→∀ g,blkOf β hp i=some g→w'.heap[g]?=w.heap[g]?∧∀ o,N' g o→N g o
 blk:∀ g,blkB x b=some g→(blkOf β hp id=some g ∨ w.heap.size ≤ g)∧g < w'.heap.size
 frame:∀ k,k < w.heap.size→blkOf β hp id ≠ some k→w'.heap[k]?=w.heap[k]?
 os:w'.os=w.os
 tape:w'.tape=w.tape
 output:w'.output=w.output
 size:w.heap.size ≤ w'.heap.size
 new:∀ c o,N' c o→N c o ∨ blkOf β hp id=some c ∨ w.heap.size ≤ c
 ok:∀ c o,N' c o→c < w'.heap.size
theorem Turn.later {id:Nat} {x:BI} {b:SV} {w':World} {N':Reg} (h:Turn β hp w N id x b w' N'):Later β hp (upd β id x) (put hp id b):=by
 intro i hi
 by_cases e:i=id
 ·subst e
  rw [nth_put_eq _ _ _ h.inr,upd_eq]
  refine ⟨h.ne,?_⟩
  rcases h.ver with k | k | k
  ·exact (hi k).elim
  ·exact .inl k.2
  ·exact .inr k
 ·rw [nth_put_ne _ _ _ _ (Ne.symm e),upd_ne β x e]
  exact ⟨hi,.inr ⟨rfl,rfl,fun _=>rfl,rfl⟩⟩
theorem Sim.turn (h:Sim G E fr hp tm w β N) {id:Nat} {x:BI} {b:SV} {w':World} {N':Reg} (ht:Turn β hp w N id x b w' N')
 (hb:BR (upd β id x) (put hp id b) w' N' id b):Sim G E fr (put hp id b) tm w' (upd β id x) N':=by
 have hL:=ht.later
 have bo:∀ i,i ≠ id→blkOf (upd β id x) (put hp id b) i=blkOf β hp i:=fun i hi=>by
  unfold blkOf;rw [nth_put_ne _ _ _ _ (Ne.symm hi),upd_ne β x hi]
 have bs:blkOf (upd β id x) (put hp id b) id=blkB x b:=by
  unfold blkOf;rw [nth_put_eq _ _ _ ht.inr,upd_eq]
 refine ⟨h.len,fun i=>VR.later hL ht.ext (h.slot i),fun i=>?_,?_,?_,ht.os.trans h.os,ht.tape.trans h.tape,ht.output.trans h.output,Nat.le_trans h.size ht.size,?_,h.keep.trans ht.ext,?_,ht.ok,?_,fun i y hy=>?_⟩
 ·by_cases e:i=id
  ·subst e;rw [nth_put_eq _ _ _ ht.inr];exact hb
  ·rw [nth_put_ne _ _ _ _ (Ne.symm e)]
   exact BR.later hL ht.ext (upd_ne β x e) (h.box i) (ht.other i e)
 ·intro i j g hi hj
  by_cases ei:i=id <;> by_cases ej:j=id
  ·rw [ei,ej]
  ·subst ei
   rw [bs] at hi;rw [bo j ej] at hj
   rcases (ht.blk g hi).1 with k | k
   ·exact h.apart _ _ _ k hj
   ·have:=(h.bnd _ _ hj).1;omega
  ·subst ej
   rw [bs] at hj;rw [bo i ei] at hi
   rcases (ht.blk g hj).1 with k | k
   ·exact h.apart _ _ _ hi k
   ·have:=(h.bnd _ _ hi).1;omega
  ·rw [bo i ei] at hi;rw [bo j ej] at hj
   exact h.apart _ _ _ hi hj
 ·intro i g hi
  by_cases ei:i=id
  ·subst ei
   rw [bs] at hi
   refine ⟨(ht.blk g hi).2,?_⟩
   rcases (ht.blk g hi).1 with k | k
   ·exact (h.bnd _ _ k).2
   ·exact .inl (Nat.le_trans h.size k)
  ·rw [bo i ei] at hi
   have:=h.bnd _ _ hi
   exact ⟨Nat.lt_of_lt_of_le this.1 ht.size,this.2⟩
 ·intro k hk hO
  rw [ht.frame k (Nat.lt_of_lt_of_le hk h.size) (fun e=>by
   rcases (h.bnd _ _ e).2 with h1 | h1
   ·omega
   ·exact hO h1)]
  exact h.frame k hk hO
 ·intro c o hc
  rcases ht.new c o hc with k | k | k
  ·exact h.new c o k
  ·rcases (h.bnd _ _ k).2 with h1 | h1
   ·exact .inr (.inr h1)
   ·exact .inr (.inl h1)
  ·exact .inr (.inr (Nat.le_trans h.size k))
 ·intro v hv
  obtain ⟨cs,h1,h2⟩:=h.glob v hv
  exact ⟨cs,rel_ext ht.ext _ _ _ h1,h2.ext ht.ext⟩
 ·obtain ⟨h1,h2,h3⟩:=h.pin i y hy
  by_cases e:i=id
  ·subst e
   rw [nth_put_eq _ _ _ ht.inr,upd_eq]
   rcases ht.ver with k | k | k
   ·rw [k] at h2;simp only [kindB] at h2;omega
   ·omega
   ·exact ⟨h1,by rw [k.2.2.2];exact h2,by rw [k.2.1];exact h3⟩
  ·rw [nth_put_ne _ _ _ _ (Ne.symm e),upd_ne β x e]
   exact ⟨h1,h2,h3⟩
end Ev
end Go.Proofs.YtlfcdmibknmjeaaGreatDoor
namespace Go.Proofs.YtlfcdmibknmjeaaGreatDoor
namespace Ev
open Go Go.RowKit
variable {P:Program} {G:List GV} {α:Type} {E:Entry} {fr hp:List SV} {tm:Array Value} {w:World} {β:Nat→BI} {N:Reg} {r:α × List SV × List SV}
def Shd (hp hp':List SV):Prop:=∀ id,nth hp' id=nth hp id ∨ ∃ v sh e t xs,nth hp id=.row v sh e t xs∧nth hp' id=.row v true e t xs
theorem Shd.refl (hp:List SV):Shd hp hp:=fun _=>.inl rfl
theorem Shd.trans {h1 h2 h3:List SV} (a:Shd h1 h2) (b:Shd h2 h3):Shd h1 h3:=fun id=>by
 rcases b id with k | ⟨v,sh,e,t,xs,k1,k2⟩
 ·rw [k];exact a id
 ·rcases a id with j | ⟨v',sh',e',t',xs',j1,j2⟩
  ·exact .inr ⟨v,sh,e,t,xs,j ▸ k1,k2⟩
  ·rw [k1] at j2
   cases j2
   exact .inr ⟨_,_,_,_,_,j1,k2⟩
structure Gh (G:List GV) (E:Entry) (fr hp:List SV) (tm:Array Value) (w:World) (β:Nat→BI) (N:Reg) (hp':List SV) (N':Reg):Prop where
 sim:Sim G E fr hp' tm w β N'
 ext:Ext w N w N'
 later:Later β hp β hp'
 shd:Shd hp hp'
 grow:∀ b o,N' b o→N b o ∨ ∃ id,blkOf β hp id=some b
theorem Shd.blk {hp hp':List SV} {β:Nat→BI} (h:Shd hp hp') (id:Nat):blkOf β hp' id=blkOf β hp id:=by
 unfold blkOf
 rcases h id with k | ⟨v,sh,e,t,xs,k1,k2⟩
 ·rw [k]
 ·rw [k1,k2];rfl
theorem Later.trans {β1 β2 β3:Nat→BI} {h1 h2 h3:List SV} (a:Later β1 h1 β2 h2) (b:Later β2 h2 β3 h3):Later β1 h1 β3 h3:=by
 intro id hi
 obtain ⟨a1,a2⟩:=a id hi
 obtain ⟨b1,b2⟩:=b id a1
 refine ⟨b1,?_⟩
 rcases a2 with a2 | ⟨a2,a3,a4,a5⟩ <;> rcases b2 with b2 | ⟨b2,b3,b4,b5⟩
 ·exact .inl (by omega)
 ·exact .inl (by omega)
 ·exact .inl (by omega)
 ·refine .inr ⟨by omega,b3.trans a3,fun p=>by have e:=b4 p;rw [a3] at e;rw [e,a4],b5.trans a5⟩
theorem Gh.refl (h:Sim G E fr hp tm w β N):Gh G E fr hp tm w β N hp N:=⟨h,Ext.refl _ _,Later.refl _ _,Shd.refl _,fun _ _ h=>.inl h⟩
theorem Gh.trans {hp' hp'':List SV} {N' N'':Reg} (h:Gh G E fr hp tm w β N hp' N') (k:Gh G E fr hp' tm w β N' hp'' N''):Gh G E fr hp tm w β N hp'' N'' :=
 ⟨k.sim,h.ext.trans k.ext,h.later.trans k.later,h.shd.trans k.shd,fun b o hb=>by
  rcases k.grow b o hb with j | ⟨id,j⟩
  ·exact h.grow b o j
  ·exact .inr ⟨id,by rw [← h.shd.blk];exact j⟩⟩
theorem add_add (a:Addr) (i j:Nat):(a.add i).add j=a.add (i + j):=by
 unfold Addr.add
 split <;> split <;> simp_all <;> omega
theorem add_lit (b o n:Nat):Addr.add ⟨b,o,none⟩ n=⟨b,o + n,none⟩:=Addr.add_lit b o n
theorem flat_get {n:Nat}:∀ (css:List (List Value)),(∀ c ∈ css,c.length=n)→∀ (i j:Nat) (hi:i < css.length) (hj:j < (css[i]).length),css.flatten[i * n + j]?=some (css[i])[j]
 | [],_,_,_,hi,_=>by simp at hi
 | c :: css,h,0,j,hi,hj=>by
  simp only [List.flatten_cons,Nat.zero_mul,Nat.zero_add]
  rw [List.getElem?_append_left (by simpa using hj)]
  simp at hj
  simp [hj]
 | c :: css,h,i + 1,j,hi,hj=>by
  have hc:=h c (by simp)
  simp only [List.flatten_cons]
  rw [List.getElem?_append_right (by rw [hc,Nat.succ_mul];omega),hc,show (i + 1) * n + j - n=i * n + j by rw [Nat.succ_mul];omega]
  exact flat_get css (fun d hd=>h d (by simp [hd])) i j (by simpa using hi) (by simpa using hj)
theorem RowAt.cells {e:TypeId} {t:Ty} {sh:Bool} {xs:List t.denote} {v:Value} (h:RowAt w N e t sh xs v) :
 ∃ A cap,v=.slice A xs.length cap∧xs.length ≤ cap∧(A=none→xs=[])∧(∀ ad,A=some ad→ad.off=0∧ad.spot=none∧v.ownBlock=some ad.block) ∧
  ∀ (i:Nat) (hi:i < xs.length),∃ ad c,A=some ad∧rel w N t xs[i] c∧∀ j (hj:j < c.length),w.cell? ((ad.add (i * t.size)).add j)=some c[j]:=by
 obtain ⟨⟨css,h1,h2,h3,h4⟩,h5⟩:=h
 rcases h4 with ⟨rfl,h4⟩ | ⟨g,cap,cur,rfl,_,e2,e3,_,e4,e5⟩
 ·have:xs=[]:=List.eq_nil_of_length_eq_zero h4
  subst this
  exact ⟨none,0,rfl,Nat.le_refl _,fun _=>rfl,fun ad h=>(by cases h),fun i hi=>(by cases hi)⟩
 ·refine ⟨some ⟨g,0,none⟩,cap,rfl,e3,fun h=>(by cases h),fun ad h=>by cases h;exact ⟨rfl,rfl,rfl⟩,fun i hi=>?_⟩
  have hi':i < css.length:=by omega
  refine ⟨_,css[i],rfl,h2 i hi hi',fun j hj=>?_⟩
  have hlen:∀ c ∈ css,c.length=t.size:=fun c hc=>by
   obtain ⟨k,hk,rfl⟩:=List.getElem_of_mem hc
   exact rel_len t _ _ (h2 k (by omega) hk)
  have hf:=flat_get css hlen i j hi' hj
  rw [← e5,List.getElem?_take] at hf
  split at hf
  ·rw [add_lit,add_lit,Nat.zero_add]
   simp only [World.cell?,e2]
   simpa using hf
  ·cases hf
theorem RowAt.imm {e:TypeId} {t:Ty} {sh:Bool} {xs:List t.denote} {v:Value} {N':Reg} (h:RowAt w N e t sh xs v) (hE:Ext w N w N') (hN:∀ g,v.ownBlock=some g→∀ o,o < xs.length * t.size→N' g o) :
 rel w N' (.list t) xs [v]:=by
 obtain ⟨A,cap,rfl,hc,_,hA,hcell⟩:=h.cells
 refine ⟨A,cap,rfl,hc,fun i hi=>?_⟩
 obtain ⟨ad,c,rfl,h1,h2⟩:=hcell i hi
 obtain ⟨o1,o2,o3⟩:=hA ad rfl
 refine ⟨ad,c,rfl,rel_ext hE _ _ _ h1,fun j hj=>⟨?_,h2 j hj⟩⟩
 have hl:=rel_len t _ _ h1
 obtain ⟨ab,ao,as⟩:=ad
 simp only at o1 o2
 subst o1;subst o2
 rw [add_lit,add_lit]
 refine hN ab o3 _ ?_
 have:i * t.size + t.size ≤ xs.length * t.size:=by rw [← Nat.succ_mul];exact Nat.mul_le_mul_right _ hi
 simp only [Nat.zero_add]
 omega
theorem Sim.share (h:Sim G E fr hp tm w β N) {id v:Nat} {sh:Bool} {e:TypeId} {t:Ty} {xs:List t.denote} (hr:nth hp id=.row v sh e t xs) :
 ∃ N',Gh G E fr hp tm w β N (put hp id (.row v true e t xs)) N'∧rel w N' (.list t) xs [(β id).val]:=by
 have hin:id < hp.length:=nth_in (by rw [hr];simp)
 have hb:=h.box id
 rw [hr] at hb
 obtain ⟨hb,hblk⟩:=hb
 let N':Reg:=fun b o=>N b o ∨ ((β id).val.ownBlock=some b∧o < xs.length * t.size)
 have hE:Ext w N w N':=fun b o hb=>⟨.inl hb,rfl⟩
 have hbo:blkOf β hp id=(β id).val.ownBlock:=by unfold blkOf;rw [hr];rfl
 have ht:Turn β hp w N id (β id) (.row v true e t xs) w N':=by
  refine ⟨hin,by simp,.inr (.inr ⟨by rw [hr];rfl,rfl,fun p=>by rw [hr];rfl,by rw [hr];rfl⟩),hE,fun i hi g hg=>⟨rfl,fun o ho=>?_⟩,fun g hg=>?_,fun _ _ _=>rfl,rfl,rfl,rfl,Nat.le_refl _,fun c o ho=>?_,fun c o ho=>?_⟩
  ·rcases ho with ho | ⟨ho,_⟩
   ·exact ho
   ·exact (hi (h.apart _ _ _ hg (hbo.trans ho))).elim
  ·have hg':blkOf β hp id=some g:=by rw [hbo];exact hg
   exact ⟨.inl hg',(h.bnd _ _ hg').1⟩
  ·rcases ho with ho | ⟨ho,_⟩
   ·exact .inl ho
   ·exact .inr (.inl (hbo.trans ho))
  ·rcases ho with ho | ⟨ho,_⟩
   ·exact h.ok _ _ ho
   ·exact (h.bnd id c (hbo.trans ho)).1
 have hrow:RowAt w N' e t true xs (β id).val:=by
  obtain ⟨⟨css,h1,h2,h3⟩,h4⟩:=hb
  refine ⟨⟨css,h1,fun i hi hi'=>rel_ext hE _ _ _ (h2 i hi hi'),h3⟩,fun g hg o ho=>⟨rfl,?_⟩⟩
  rcases ho with ho | ⟨_,ho⟩
  ·exact (h4 g hg o ho).2
  ·exact ho
 have hs:=h.turn ht (by rw [upd_self];exact ⟨hrow,hblk⟩)
 have hl:=ht.later
 rw [upd_self] at hs hl
 have hsd:Shd hp (put hp id (.row v true e t xs)):=fun i=>by
  by_cases ei:i=id
  ·subst ei;exact .inr ⟨v,sh,e,t,xs,hr,nth_put_eq _ _ _ hin⟩
  ·exact .inl (nth_put_ne _ _ _ _ (Ne.symm ei))
 exact ⟨N',⟨hs,hE,hl,hsd,fun b o hb=>by
  rcases hb with hb | ⟨hb,_⟩
  ·exact .inl hb
  ·exact .inr ⟨id,hbo.trans hb⟩⟩,hb.imm hE (fun g hg o ho=>.inr ⟨hg,ho⟩)⟩
theorem castA_elim {t t':Ty} {x:t.denote} {k:t'.denote→Acc P G α} (hr:run (castA t t' x k) fr hp=some r):∃ h:t=t',run (k (h ▸ x)) fr hp=some r:=by
 unfold castA at hr
 split at hr
 ·rename_i h;exact ⟨h,hr⟩
 ·simp [run] at hr
theorem eqA_elim {t t':Ty} {k:Acc P G α} (hr:run (eqA t t' k) fr hp=some r):t=t'∧run k fr hp=some r:=by
 unfold eqA at hr
 split at hr
 ·rename_i h;exact ⟨h,hr⟩
 ·simp [run] at hr
theorem cond_fail {c:Bool} {m:Acc P G α} (hr:run (cond c m .fail) fr hp=some r):c=true∧run m fr hp=some r:=by
 cases c
 ·simp [run] at hr
 ·exact ⟨rfl,hr⟩
theorem tyA_elim {T:Tab} (hT:tabChk P T=true) {n:TypeId} {k:Ty→Acc P G α} (hr:run (tyA T n k) fr hp=some r):∃ t,tyChk P t none n=true∧run (k t) fr hp=some r:=by
 induction T with
 | nil=>simp [tyA,run] at hr
 | cons v T ih =>
  obtain ⟨m,t,e,q,mq⟩:=v
  simp only [tabChk,List.all_cons,Bool.and_eq_true] at hT
  simp only [tyA] at hr
  cases hm:Nat.beq m n with
  | true =>
   rw [hm] at hr
   have:m=n:=Nat.eq_of_beq_eq_true hm
   subst this
   refine ⟨t,?_,hr⟩
   have:=hT.1
   unfold tvChk at this
   simp only [Bool.and_eq_true] at this
   exact this.1.1.1
  | false=>rw [hm] at hr;exact ih hT.2 hr
theorem tyE_elim {T:Tab} (hT:tabChk P T=true) {n:TypeId} {k:Ty→TypeId→Acc P G α} (hr:run (tyE T n k) fr hp=some r) :
 ∃ t e,tyChk P t none n=true∧(∀ u,t=.list u→P.underlying n=some (.slice e)∧tyChk P u none e=true)∧run (k t e) fr hp=some r:=by
 induction T with
 | nil=>simp [tyE,run] at hr
 | cons v T ih =>
  obtain ⟨m,t,e,q,mq⟩:=v
  simp only [tabChk,List.all_cons,Bool.and_eq_true] at hT
  simp only [tyE] at hr
  cases hm:Nat.beq m n with
  | true =>
   rw [hm] at hr
   have:m=n:=Nat.eq_of_beq_eq_true hm
   subst this
   have:=hT.1
   unfold tvChk at this
   simp only [Bool.and_eq_true] at this
   refine ⟨t,e,this.1.1.1,fun u hu=>?_,hr⟩
   subst hu
   have h2:=this.1.2
   simp only [Bool.and_eq_true] at h2
   obtain ⟨d,hd,hf⟩:=undChk_some h2.1
   split at hf
   ·simp only [decide_eq_true_eq] at hf
    subst hf
    exact ⟨hd,h2.2⟩
   ·cases hf
  | false=>rw [hm] at hr;exact ih hT.2 hr
theorem tyQ_elim {T:Tab} (hT:tabChk P T=true) {n:TypeId} {k:Ty→Acc P G α} (hr:run (tyQ T n k) fr hp=some r) :
 ∃ t,tyChk P t none n=true∧t.isAgg=true∧eqChk P t none n=true∧P.eqGuardType P.depth n=false∧t.high ≤ 9999∧run (k t) fr hp=some r:=by
 induction T with
 | nil=>simp [tyQ,run] at hr
 | cons v T ih =>
  obtain ⟨m,t,e,q,mq⟩:=v
  simp only [tabChk,List.all_cons,Bool.and_eq_true] at hT
  simp only [tyQ] at hr
  cases hm:Nat.beq m n with
  | true =>
   rw [hm] at hr
   have:m=n:=Nat.eq_of_beq_eq_true hm
   subst this
   cases q with
   | false=>simp [run] at hr
   | true =>
    have:=hT.1
    unfold tvChk at this
    obtain ⟨ha,hr⟩:=cond_fail (show run (cond t.isAgg (k t) .fail) fr hp=some r from hr)
    have h2:(t.isAgg && eqChk P t none m && !(P.eqGuardType P.depth m) && decide (t.high ≤ 9999))=true:=by
     simp only [Bool.and_eq_true,Bool.not_true,Bool.false_or] at this
     have h3:=this.1.1.2
     cases t with
     | opq=>simp [Ty.isAgg] at ha
     | _=>simpa using h3
    simp only [Bool.and_eq_true,Bool.not_true,Bool.false_or,Bool.not_eq_true',decide_eq_true_eq] at this h2
    exact ⟨t,this.1.1.1,h2.1.1.1,h2.1.1.2,h2.1.2,h2.2,hr⟩
  | false=>rw [hm] at hr;exact ih hT.2 hr
structure MapOk (P:Program) (n:TypeId) (q:MapT):Prop where
 und:P.underlying n=some (.map q.kn q.vn)
 kty:tyChk P q.kt none q.kn=true
 vty:tyChk P q.vt none q.vn=true
 keq:eqChk P q.kt none q.kn=true
 high:q.kt.high ≤ 9998
 vz:∀ i z,P.info? q.vn=some i→i.zero=some z→(q.vt.isAgg=true→∃ cs,z=.agg cs)∧(q.vt.isAgg=false→z.oneCell'=true)
theorem tyM_elim {T:Tab} (hT:tabChk P T=true) {n:TypeId} {k:MapT→Acc P G α} (hr:run (tyM T n k) fr hp=some r):∃ q,MapOk P n q∧run (k q) fr hp=some r:=by
 induction T with
 | nil=>simp [tyM,run] at hr
 | cons v T ih =>
  obtain ⟨m,t,e,q,mq⟩:=v
  simp only [tabChk,List.all_cons,Bool.and_eq_true] at hT
  simp only [tyM] at hr
  cases hm:Nat.beq m n with
  | true =>
   rw [hm] at hr
   have:m=n:=Nat.eq_of_beq_eq_true hm
   subst this
   cases mq with
   | none=>simp [run] at hr
   | some mq =>
    have:=hT.1
    unfold tvChk at this
    simp only [Bool.and_eq_true] at this
    have h2:=this.2
    unfold mapChk at h2
    simp only [Bool.and_eq_true,decide_eq_true_eq] at h2
    obtain ⟨⟨⟨⟨⟨h3,h4⟩,h5⟩,h6⟩,h7⟩,h8⟩:=h2
    obtain ⟨d,hd,hf⟩:=undChk_some h3
    split at hf
    ·simp only [Bool.and_eq_true,decide_eq_true_eq] at hf
     obtain ⟨e1,e2⟩:=hf
     refine ⟨mq,⟨by rw [hd,e1,e2],h4,h5,h6,h7,fun i z hi hz=>?_⟩,hr⟩
     rw [hi] at h8
     simp only [hz] at h8
     cases ha:mq.vt.isAgg with
     | true =>
      rw [ha] at h8
      cases z with
      | agg cs=>exact ⟨fun _=>⟨cs,rfl⟩,fun h=>(by cases h)⟩
      | _=>cases h8
     | false=>rw [ha] at h8;exact ⟨fun h=>(by cases h),fun _=>h8⟩
    ·cases hf
  | false=>rw [hm] at hr;exact ih hT.2 hr
theorem tyP_elim {T:Tab} (hT:tabChk P T=true) {n:TypeId} {k:Acc P G α} (hr:run (tyP T n k) fr hp=some r):(∃ e,P.underlying n=some (.pointer e))∧run k fr hp=some r:=by
 induction T with
 | nil=>simp [tyP,run] at hr
 | cons v T ih =>
  obtain ⟨m,t,e,q,mq⟩:=v
  simp only [tabChk,List.all_cons,Bool.and_eq_true] at hT
  simp only [tyP] at hr
  cases hm:Nat.beq m n with
  | true =>
   rw [hm] at hr
   have:m=n:=Nat.eq_of_beq_eq_true hm
   subst this
   obtain ⟨hq,hr⟩:=cond_fail (show run (cond q (eqA t .opq k) .fail) fr hp=some r from hr)
   obtain ⟨rfl,hr⟩:=eqA_elim hr
   have:=hT.1
   unfold tvChk at this
   subst hq
   simp only [Bool.and_eq_true,Bool.not_true,Bool.false_or] at this
   obtain ⟨d,hd,hf⟩:=undChk_some this.1.1.2
   split at hf
   ·exact ⟨⟨_,hd⟩,hr⟩
   ·cases hf
  | false=>rw [hm] at hr;exact ih hT.2 hr
theorem globA_elim {n:Nat} {k:SV→Acc P G α}:∀ (L:List GV),(∀ v ∈ L,v ∈ G)→(h:Sim G E fr hp tm w β N)→run (globA L n k) fr hp=some r→∃ sv,VR β hp w N sv (.pointer (some ⟨n,0,none⟩))∧run (k sv) fr hp=some r
 | [],_,_,hr=>by simp [globA,run] at hr
 | v :: L,hL,h,hr=>by
  simp only [globA] at hr
  cases hm:Nat.beq v.g n with
  | true =>
   rw [hm] at hr
   have:v.g=n:=Nat.eq_of_beq_eq_true hm
   subst this
   obtain ⟨cs,h1,h2⟩:=h.glob v (hL v (by simp))
   exact ⟨.iptr v.t v.x,⟨_,cs,rfl,h1,h2⟩,hr⟩
  | false=>rw [hm] at hr;exact globA_elim L (fun u hu=>hL u (by simp [hu])) h hr
theorem rdO_elim {a:Act} (h:Sim G E fr hp a.tmps w β N) {o:Operand} {k:SV→Acc P G α} (hr:run (rdO o k) fr hp=some r):∃ sv,VR β hp w N sv (a.eval o)∧run (k sv) fr hp=some r:=by
 cases o with
 | tmp t=>exact ⟨_,h.slot t,by simpa [rdO,run] using hr⟩
 | func f=>exact ⟨.fn f,rfl,hr⟩
 | global g=>exact globA_elim G (fun _ h=>h) h hr
 | const v =>
  have imm1:∀ (t:Ty) (x:t.denote) (u:Value),t.isAgg=false→rel w N t x [u]→VR β hp w N (.imm t x) u:=fun t x u ht hx=>⟨[u],hx,by unfold valOf;rw [ht];rfl⟩
  simp only [rdO,constA] at hr
  split at hr
  ·exact ⟨_,imm1 (.int _) _ _ rfl rfl,hr⟩
  ·exact ⟨_,imm1 .bool _ _ rfl rfl,hr⟩
  ·exact ⟨_,imm1 .str _ _ rfl rfl,hr⟩
  ·exact ⟨.nilS,rfl,hr⟩
  ·exact ⟨.nilP,rfl,hr⟩
  ·exact ⟨.tup [],⟨[],rfl,rfl,fun i hi=>by simp at hi⟩,hr⟩
  ·simp [run] at hr
end Ev
end Go.Proofs.YtlfcdmibknmjeaaGreatDoor
namespace Go.Proofs.YtlfcdmibknmjeaaGreatDoor
namespace Ev
open Go Go.RowKit
variable {P:Program} {G:List GV} {α:Type} {E:Entry} {fr hp:List SV} {tm:Array Value} {w:World} {β:Nat→BI} {N:Reg} {r:α × List SV × List SV}
theorem fail_elim {q:Prop} (hr:run (Acc.fail:Acc P G α) fr hp=some r):q:=by simp [run] at hr
theorem rel_cut {t:Ty} {xs:List t.denote} {A:Option Addr} {n cap l h:Nat} (hx:rel w N (.list t) xs [.slice A n cap]) (h1:l ≤ h) (h2:h ≤ n) :
 n=xs.length∧n ≤ cap∧rel w N (.list t) ((xs.take h).drop l) [.slice (if cap=l then A else A.map (·.add (l * t.size))) (h - l) (cap - l)]:=by
 obtain ⟨A',cap',e,hc,hel⟩:=hx
 cases e
 have hlen:((xs.take h).drop l).length=h - l:=by simp;omega
 refine ⟨rfl,hc,?_⟩
 refine ⟨_,_,by rw [hlen],by rw [hlen];omega,fun i hi=>?_⟩
 rw [hlen] at hi
 obtain ⟨ad,c,e,r1,r2⟩:=hel (l + i) (by omega)
 have hne:¬ cap=l:=by omega
 rw [if_neg hne,e]
 refine ⟨ad.add (l * t.size),c,rfl,?_,?_⟩
 ·simpa using r1
 ·rw [add_add,← Nat.add_mul];exact r2
theorem leafA_elim (h:Sim G E fr hp tm w β N) {t:Ty} {v:SV} {cs:List Value} {k:t.denote→Acc P G α} (hr:run (leafA t v k) fr hp=some r)
 (hv:match v with | .imm t' x=>rel w N t' x cs | _=>∃ c,cs=[c]∧LR β hp w N v c) :
 ∃ hp' N' x,Gh G E fr hp tm w β N hp' N'∧rel w N' t x cs∧run (k x) fr hp'=some r:=by
 cases v with
 | imm t' x =>
  obtain ⟨e,hr⟩:=castA_elim hr
  subst e
  exact ⟨hp,N,x,Gh.refl h,hv,hr⟩
 | nilS =>
  obtain ⟨c,rfl,hc⟩:=hv
  have hc:c=.slice none 0 0:=hc
  subst hc
  simp only [leafA] at hr
  split at hr
  ·rename_i u
   exact ⟨hp,N,[],Gh.refl h,⟨none,0,rfl,Nat.le_refl _,fun i hi=>by cases hi⟩,hr⟩
  ·exact fail_elim hr
 | own id ver =>
  obtain ⟨c,rfl,hc⟩:=hv
  obtain ⟨h1,h2,_,h3⟩:=(hc:nth hp id ≠ .none∧ver ≤ bver (nth hp id)∧c.oneCell'=true∧∀ sh e t xs,nth hp id=.row ver sh e t xs→c=(β id).val)
  simp only [leafA,run,if_true] at hr
  split at hr
  ·rename_i v' sh e t' xs hrow
   obtain ⟨hver,hr1⟩:=cond_fail hr
   have hver:v'=ver:=Nat.eq_of_beq_eq_true hver
   subst hver
   clear hr
   obtain ⟨et,hr⟩:=castA_elim hr1
   subst et
   have hc:=h3 _ _ _ _ hrow
   subst hc
   obtain ⟨N',hg,hx⟩:=h.share hrow
   cases sh with
   | true =>
    have:put hp id (.row v' true e t' xs)=hp:=by rw [← hrow];exact put_nth _ _
    rw [this] at hg
    exact ⟨hp,N',xs,hg,hx,hr⟩
   | false=>exact ⟨_,N',xs,hg,hx,by simpa [cond,run] using hr⟩
  ·exact fail_elim hr
 | sub id ver i n u =>
  obtain ⟨c,rfl,hc⟩:=hv
  obtain ⟨h1,h2,_,h3⟩:=(hc:nth hp id ≠ .none∧ver ≤ bver (nth hp id)∧c.oneCell'=true∧∀ sh e t' xs,nth hp id=.row ver sh e t' xs→∃ A m cap,(β id).val=.slice A m cap∧m ≤ cap∧i + n ≤ m∧c=.slice (if cap=i then A else A.map (·.add (i * u.size))) n (cap - i))
  simp only [leafA,run,if_true] at hr
  split at hr
  ·rename_i v' sh e t' xs hrow
   obtain ⟨hver,hr1⟩:=cond_fail hr
   have hver:v'=ver:=Nat.eq_of_beq_eq_true hver
   subst hver
   clear hr
   split at hr1
   ·rename_i eu
    subst eu
    obtain ⟨et,hr⟩:=castA_elim hr1
    subst et
    obtain ⟨A,m,cap,e1,e2,e3,rfl⟩:=h3 _ _ _ _ hrow
    obtain ⟨N',hg,hx⟩:=h.share hrow
    rw [e1] at hx
    have hcut:=(rel_cut (l:=i) (h:=i + n) hx (by omega) e3).2.2
    rw [Nat.add_sub_cancel_left] at hcut
    cases sh with
    | true =>
     have:put hp id (.row v' true e u xs)=hp:=by rw [← hrow];exact put_nth _ _
     rw [this] at hg
     exact ⟨hp,N',_,hg,hcut,hr⟩
    | false=>exact ⟨_,N',_,hg,hcut,by simpa [cond,run] using hr⟩
   ·exact fail_elim hr1
  ·exact fail_elim hr
 | _=>exact fail_elim hr
theorem convA_elim (t:Ty):∀ (tl:Bool) (sv:SV) (vs:List SV) (cs:List Value) (k:t.denote→Acc P G α) (hp:List SV) (N:Reg),Sim G E fr hp tm w β N→run (convA t tl sv vs k) fr hp=some r→CR β hp w N t tl sv vs cs →
 ∃ hp' N' x,Gh G E fr hp tm w β N hp' N'∧rel w N' t x cs∧run (k x) fr hp'=some r:=by
 have leaf:∀ (t:Ty) (sv:SV) (cs:List Value) (k:t.denote→Acc P G α) (hp:List SV) (N:Reg),Sim G E fr hp tm w β N→run (leafA t sv k) fr hp=some r→LeafC β hp w N t sv cs →
  ∃ hp' N' x,Gh G E fr hp tm w β N hp' N'∧rel w N' t x cs∧run (k x) fr hp'=some r:=by
  intro t sv cs k hp N h hr hc
  refine leafA_elim h hr ?_
  cases sv with
  | imm t' x=>exact hc.2
  | nilS=>obtain ⟨_,c,e,hl⟩:=hc;exact ⟨c,e,hl⟩
  | nilP=>obtain ⟨_,c,e,hl⟩:=hc;exact ⟨c,e,hl⟩
  | own id ver=>obtain ⟨_,c,e,hl⟩:=hc;exact ⟨c,e,hl⟩
  | ptr id ver p t=>obtain ⟨_,c,e,hl⟩:=hc;exact ⟨c,e,hl⟩
  | mph id=>obtain ⟨_,c,e,hl⟩:=hc;exact ⟨c,e,hl⟩
  | _=>exact (hc:False).elim
 induction t with
 | pair a b iha ihb =>
  have both:∀ (v:SV) (vs:List SV) (cs:List Value) (k:(Ty.pair a b).denote→Acc P G α) (hp:List SV) (N:Reg),Sim G E fr hp tm w β N →
   run (convA a false v [] fun x=>convA b true .none vs fun y=>k (x,y)) fr hp=some r→(∃ c1 c2,cs=c1 ++ c2∧CR β hp w N a false v [] c1∧CR β hp w N b true .none vs c2) →
   ∃ hp' N' x,Gh G E fr hp tm w β N hp' N'∧rel w N' (.pair a b) x cs∧run (k x) fr hp'=some r:=by
   intro v vs cs k hp N h hr ⟨c1,c2,e,h1,h2⟩
   obtain ⟨hp1,N1,x,g1,r1,hr⟩:=iha false v [] c1 _ hp N h hr h1
   obtain ⟨hp2,N2,y,g2,r2,hr⟩:=ihb true .none vs c2 _ hp1 N1 g1.sim hr (CR.later g1.later g1.ext _ _ _ _ _ h2)
   exact ⟨hp2,N2,(x,y),g1.trans g2,⟨c1,c2,e,rel_ext g2.ext _ _ _ r1,r2⟩,hr⟩
  intro tl sv vs cs k hp N h hr hc
  cases tl with
  | true =>
   cases vs with
   | nil=>exact (hc:False).elim
   | cons v vs=>exact both v vs cs k hp N h hr hc
  | false =>
   cases sv with
   | agg t' ws =>
    cases ws with
    | nil=>exact ((hc:t'=.pair a b∧False).2).elim
    | cons v ws =>
     simp only [convA] at hr
     split at hr
     ·exact both v ws cs k hp N h hr (hc:t'=.pair a b∧_).2
     ·exact fail_elim hr
   | _=>exact leaf (.pair a b) _ cs k hp N h hr hc
 | unit =>
  intro tl sv vs cs k hp N h hr hc
  cases tl with
  | true =>
   obtain ⟨rfl,rfl⟩:=(hc:vs=[]∧cs=[])
   exact ⟨hp,N,(),Gh.refl h,rfl,hr⟩
  | false =>
   cases sv with
   | agg t' ws =>
    obtain ⟨rfl,rfl,rfl⟩:=(hc:t'=.unit∧ws=[]∧cs=[])
    exact ⟨hp,N,(),Gh.refl h,rfl,by simpa [convA] using hr⟩
   | _=>exact leaf .unit _ cs k hp N h hr hc
 | int j=>intro tl sv vs cs k hp N h hr hc;cases tl with | true=>exact (hc:False).elim | false=>exact leaf (.int j) sv cs k hp N h hr hc
 | bool=>intro tl sv vs cs k hp N h hr hc;cases tl with | true=>exact (hc:False).elim | false=>exact leaf .bool sv cs k hp N h hr hc
 | str=>intro tl sv vs cs k hp N h hr hc;cases tl with | true=>exact (hc:False).elim | false=>exact leaf .str sv cs k hp N h hr hc
 | opq=>intro tl sv vs cs k hp N h hr hc;cases tl with | true=>exact (hc:False).elim | false=>exact leaf .opq sv cs k hp N h hr hc
 | list u=>intro tl sv vs cs k hp N h hr hc;cases tl with | true=>exact (hc:False).elim | false=>exact leaf (.list u) sv cs k hp N h hr hc
 | arr n u=>intro tl sv vs cs k hp N h hr hc;cases tl with | true=>exact (hc:False).elim | false=>exact leaf (.arr n u) sv cs k hp N h hr hc
theorem immA_elim (h:Sim G E fr hp tm w β N) {t:Ty} {v:SV} {u:Value} {k:t.denote→Acc P G α} (hr:run (immA t v k) fr hp=some r) (hv:VR β hp w N v u) :
 ∃ hp' N' x,Gh G E fr hp tm w β N hp' N'∧IsImm w N' t x u∧run (k x) fr hp'=some r:=by
 have leaf:run (leafA t v k) fr hp=some r→(match v with | .agg _ _=>False | .tup _=>False | _=>True) →
  ∃ hp' N' x,Gh G E fr hp tm w β N hp' N'∧IsImm w N' t x u∧run (k x) fr hp'=some r:=by
  intro hr hm
  cases v with
  | imm t' x =>
   obtain ⟨cs,h1,rfl⟩:=(hv:IsImm w N t' x u)
   obtain ⟨e,hr⟩:=castA_elim (show run (castA t' t x k) fr hp=some r from hr)
   subst e
   exact ⟨hp,N,x,Gh.refl h,⟨cs,h1,rfl⟩,hr⟩
  | agg t' vs=>exact hm.elim
  | tup vs=>exact hm.elim
  | nilS =>
   have h0:=hr
   obtain ⟨hp',N',x,g,hx,hr⟩:=leafA_elim (v:=.nilS) (cs:=[u]) h hr ⟨u,rfl,hv⟩
   refine ⟨hp',N',x,g,⟨[u],hx,?_⟩,hr⟩
   simp only [leafA] at h0
   split at h0
   ·rfl
   ·exact fail_elim h0
  | own id ver =>
   have h0:=hr
   obtain ⟨hp',N',x,g,hx,hr⟩:=leafA_elim (v:=.own id ver) (cs:=[u]) h hr ⟨u,rfl,hv⟩
   refine ⟨hp',N',x,g,⟨[u],hx,?_⟩,hr⟩
   simp only [leafA,run,if_true] at h0
   split at h0
   ·obtain ⟨_,h0⟩:=cond_fail h0
    obtain ⟨e,_⟩:=castA_elim h0
    subst e;rfl
   ·exact fail_elim h0
  | sub id ver i n t0 =>
   have h0:=hr
   obtain ⟨hp',N',x,g,hx,hr⟩:=leafA_elim (v:=.sub id ver i n t0) (cs:=[u]) h hr ⟨u,rfl,hv⟩
   refine ⟨hp',N',x,g,⟨[u],hx,?_⟩,hr⟩
   simp only [leafA,run,if_true] at h0
   split at h0
   ·obtain ⟨_,h0⟩:=cond_fail h0
    split at h0
    ·obtain ⟨e,_⟩:=castA_elim h0
     subst e;rfl
    ·exact fail_elim h0
   ·exact fail_elim h0
  | _=>exact fail_elim hr
 unfold immA at hr
 cases v with
 | agg t' vs =>
  obtain ⟨cs,rfl,hc⟩:=(hv:∃ cs,u=.agg cs.toArray∧CR β hp w N t' false (.agg t' vs) [] cs)
  have et:t'=t∧t.isAgg=true:=by
   cases t with
   | pair a b =>
    simp only [convA] at hr;split at hr
    ·rename_i e;exact ⟨e,rfl⟩
    ·exact fail_elim hr
   | unit =>
    simp only [convA] at hr;split at hr
    ·rename_i e;exact ⟨e,rfl⟩
    ·exact fail_elim hr
   | _=>exact fail_elim hr
  obtain ⟨rfl,hag⟩:=et
  obtain ⟨hp',N',x,g,hx,hr⟩:=convA_elim t' false _ [] cs k hp N h hr hc
  exact ⟨hp',N',x,g,⟨cs,hx,by unfold valOf;rw [hag]⟩,hr⟩
 | tup vs=>cases t <;> exact fail_elim hr
 | none=>exact leaf (by cases t <;> exact hr) trivial
 | nilS=>exact leaf (by cases t <;> exact hr) trivial
 | nilP=>exact leaf (by cases t <;> exact hr) trivial
 | imm t' x=>exact leaf (by cases t <;> exact hr) trivial
 | own id ver=>exact leaf (by cases t <;> exact hr) trivial
 | ptr id ver p t'=>exact leaf (by cases t <;> exact hr) trivial
 | iptr t' x=>exact leaf (by cases t <;> exact hr) trivial
 | fn f=>exact leaf (by cases t <;> exact hr) trivial
 | mph f=>exact leaf (by cases t <;> exact hr) trivial
 | sub _ _ _ _ _=>exact leaf (by cases t <;> exact hr) trivial
 | clo _ _=>exact leaf (by cases t <;> exact hr) trivial
 | mp a b c=>exact leaf (by cases t <;> exact hr) trivial
 | dead a=>exact leaf (by cases t <;> exact hr) trivial
 | row a b c d e=>exact leaf (by cases t <;> exact hr) trivial
def Reads (w:World) (N:Reg) (t:Ty) (xs:List t.denote) (u:Value):Prop :=
 ∃ A cap,u=.slice A xs.length cap∧xs.length ≤ cap∧∀ (i:Nat) (hi:i < xs.length),∃ ad c,A=some ad∧rel w N t xs[i] c∧∀ j (hj:j < c.length),w.cell? ((ad.add (i * t.size)).add j)=some c[j]
theorem Reads.of_rel {t:Ty} {xs:List t.denote} {u:Value} (h:rel w N (.list t) xs [u]):Reads w N t xs u:=by
 obtain ⟨A,cap,e,h1,h2⟩:=h
 cases e
 refine ⟨A,cap,rfl,h1,fun i hi=>?_⟩
 obtain ⟨ad,c,e,h3,h4⟩:=h2 i hi
 exact ⟨ad,c,e,h3,fun j hj=>(h4 j hj).2⟩
theorem rowA_elim (h:Sim G E fr hp tm w β N) {t:Ty} {v:SV} {u:Value} {k:List t.denote→Acc P G α} (hr:run (rowA t v k) fr hp=some r) (hv:VR β hp w N v u) :
 ∃ xs,Reads w N t xs u∧run (k xs) fr hp=some r:=by
 cases v with
 | imm t' x =>
  obtain ⟨e,hr⟩:=castA_elim (show run (castA t' (.list t) x k) fr hp=some r from hr)
  subst e
  obtain ⟨cs,h1,rfl⟩:=(hv:IsImm w N (.list t) x u)
  obtain ⟨c,rfl⟩:=rel_single (t:=.list t) rfl h1
  exact ⟨x,Reads.of_rel h1,hr⟩
 | nilS =>
  have hv:u=.slice none 0 0:=hv
  subst hv
  exact ⟨[],⟨none,0,rfl,Nat.le_refl _,fun i hi=>by cases hi⟩,hr⟩
 | own id ver =>
  obtain ⟨h1,h2,_,h3⟩:=(hv:nth hp id ≠ .none∧ver ≤ bver (nth hp id)∧u.oneCell'=true∧∀ sh e t xs,nth hp id=.row ver sh e t xs→u=(β id).val)
  simp only [rowA,run,if_true] at hr
  split at hr
  ·rename_i v' sh e t' xs hrow
   obtain ⟨hver,hr1⟩:=cond_fail hr
   have hver:v'=ver:=Nat.eq_of_beq_eq_true hver
   subst hver
   clear hr
   obtain ⟨et,hr⟩:=castA_elim hr1
   have et:t'=t:=by cases et;rfl
   subst et
   have hc:=h3 _ _ _ _ hrow
   subst hc
   have hb:=h.box id
   rw [hrow] at hb
   obtain ⟨A,cap,e1,e2,_,_,e3⟩:=hb.1.cells
   exact ⟨xs,⟨A,cap,e1,e2,e3⟩,hr⟩
  ·exact fail_elim hr
 | sub id ver i n u' =>
  obtain ⟨h1,h2,_,h3⟩:=(hv:nth hp id ≠ .none∧ver ≤ bver (nth hp id)∧u.oneCell'=true∧∀ sh e t' xs,nth hp id=.row ver sh e t' xs→∃ A m cap,(β id).val=.slice A m cap∧m ≤ cap∧i + n ≤ m∧u=.slice (if cap=i then A else A.map (·.add (i * u'.size))) n (cap - i))
  simp only [rowA,run,if_true] at hr
  split at hr
  ·rename_i v' sh e t' xs hrow
   obtain ⟨hver,hr1⟩:=cond_fail hr
   have hver:v'=ver:=Nat.eq_of_beq_eq_true hver
   subst hver
   clear hr
   split at hr1
   ·rename_i eu
    subst eu
    obtain ⟨et,hr⟩:=castA_elim hr1
    have et:u'=t:=by cases et;rfl
    subst et
    obtain ⟨A,m,cap,k1,k2,k3,rfl⟩:=h3 _ _ _ _ hrow
    have hb:=h.box id
    rw [hrow] at hb
    obtain ⟨A',cap',e1,e2,_,_,e3⟩:=hb.1.cells
    rw [k1] at e1
    cases e1
    have hlen:((xs.take (i + n)).drop i).length=n:=by simp;omega
    refine ⟨_,⟨_,_,by rw [hlen],by rw [hlen];omega,fun j hj=>?_⟩,hr⟩
    rw [hlen] at hj
    obtain ⟨ad,c,e,r1,r2⟩:=e3 (i + j) (by omega)
    rw [if_neg (show ¬ cap=i by omega),e]
    refine ⟨ad.add (i * u'.size),c,rfl,by simpa using r1,fun k hk=>?_⟩
    rw [add_add ad (i * u'.size) (j * u'.size),← Nat.add_mul]
    exact r2 k hk
   ·exact fail_elim hr1
  ·exact fail_elim hr
 | _=>exact fail_elim hr
end Ev
end Go.Proofs.YtlfcdmibknmjeaaGreatDoor
namespace Go.Proofs.YtlfcdmibknmjeaaGreatDoor
namespace Ev
open Go Go.RowKit
variable {P:Program} {G:List GV} {α:Type} {E:Entry} {fr hp:List SV} {tm:Array Value} {w:World} {β:Nat→BI} {N:Reg} {r:α × List SV × List SV}
def sub (cs:List Value) (o n:Nat):List Value:=(cs.drop o).take n
theorem sub_all (cs:List Value):sub cs 0 cs.length=cs:=by simp [sub]
theorem sub_sub (cs:List Value) {o n o' n':Nat} (h:o' + n' ≤ n):sub (sub cs o n) o' n'=sub cs (o + o') n':=by
 unfold sub
 rw [List.drop_take,List.take_take,List.drop_drop,Nat.min_eq_left (by omega)]
theorem sub_left (a b:List Value) {o n:Nat} (h:o + n ≤ a.length):sub (a ++ b) o n=sub a o n:=by
 unfold sub
 rw [List.drop_append_of_le_length (by omega),List.take_append_of_le_length (by simp;omega)]
theorem sub_right (a b:List Value) (o n:Nat):sub (a ++ b) (a.length + o) n=sub b o n:=by
 unfold sub;rw [List.drop_append,List.drop_eq_nil_of_le (by omega)];simp
theorem fldOff_le:∀ (t:Ty) (n o:Nat) (u:Ty),fldOff t n=some (o,u)→o + u.size ≤ t.size
 | .pair a b,0,o,u,h=>by simp only [fldOff,Option.some.injEq,Prod.mk.injEq] at h;obtain ⟨rfl,rfl⟩:=h;simp [Ty.size]
 | .pair a b,n + 1,o,u,h=>by
  simp only [fldOff] at h
  split at h
  ·rename_i o' u' h'
   simp only [Option.some.injEq,Prod.mk.injEq] at h
   obtain ⟨rfl,rfl⟩:=h
   have:=fldOff_le b n _ _ h'
   simp only [Ty.size];omega
  ·cases h
 | .int _,_,_,_,h=>by simp [fldOff] at h
 | .bool,_,_,_,h=>by simp [fldOff] at h
 | .str,_,_,_,h=>by simp [fldOff] at h
 | .unit,_,_,_,h=>by simp [fldOff] at h
 | .opq,_,_,_,h=>by simp [fldOff] at h
 | .list _,_,_,_,h=>by simp [fldOff] at h
 | .arr _ _,_,_,_,h=>by simp [fldOff] at h
theorem idx_le {i:Int} {n s:Nat} (h:0 ≤ i∧i < n):i.toNat * s + s ≤ n * s:=by
 rw [← Nat.succ_mul];exact Nat.mul_le_mul_right _ (by omega)
theorem stepOff_le (t:Ty) (s:Step) (o:Nat) (u:Ty) (h:stepOff t s=some (o,u)):o + u.size ≤ t.size:=by
 unfold stepOff at h
 split at h
 ·exact fldOff_le _ _ _ _ h
 ·split at h
  ·rename_i hi
   simp only [Option.some.injEq,Prod.mk.injEq] at h
   obtain ⟨rfl,rfl⟩:=h
   exact idx_le hi
  ·cases h
 ·cases h
theorem pathOff_le:∀ (p:List Step) (t:Ty) (o:Nat) (u:Ty),pathOff t p=some (o,u)→o + u.size ≤ t.size
 | [],t,o,u,h=>by simp only [pathOff,Option.some.injEq,Prod.mk.injEq] at h;obtain ⟨rfl,rfl⟩:=h;simp
 | s :: p,t,o,u,h=>by
  simp only [pathOff] at h
  split at h
  ·rename_i o1 u1 h1
   split at h
   ·rename_i o2 u2 h2
    simp only [Option.some.injEq,Prod.mk.injEq] at h
    obtain ⟨rfl,rfl⟩:=h
    have a:=stepOff_le _ _ _ _ h1
    have b:=pathOff_le p _ _ _ h2
    omega
   ·cases h
  ·cases h
theorem CR.len {t:Ty}:∀ {tl:Bool} {sv:SV} {vs:List SV} {cs:List Value},CR β hp w N t tl sv vs cs→cs.length=t.size:=by
 have leaf:∀ (t:Ty) (sv:SV) (cs:List Value),LeafC β hp w N t sv cs→cs.length=t.size:=by
  intro t sv cs h
  cases sv with
  | imm t' x=>obtain ⟨rfl,h⟩:=h;exact rel_len _ _ _ h
  | nilS=>obtain ⟨⟨u,rfl⟩,c,rfl,_⟩:=h;rfl
  | own id ver=>obtain ⟨⟨u,rfl⟩,c,rfl,_⟩:=h;rfl
  | nilP=>obtain ⟨rfl,c,rfl,_⟩:=h;rfl
  | ptr id ver p t=>obtain ⟨rfl,c,rfl,_⟩:=h;rfl
  | mph id=>obtain ⟨rfl,c,rfl,_⟩:=h;rfl
  | _=>exact (h:False).elim
 induction t with
 | pair a b iha ihb =>
  intro tl sv vs cs h
  cases tl with
  | true =>
   cases vs with
   | nil=>exact (h:False).elim
   | cons v vs =>
    obtain ⟨c1,c2,rfl,h1,h2⟩:=(h:∃ c1 c2,cs=c1 ++ c2∧CR β hp w N a false v [] c1∧CR β hp w N b true .none vs c2)
    simp [Ty.size,iha h1,ihb h2]
  | false =>
   cases sv with
   | agg t' ws =>
    cases ws with
    | nil=>exact ((h:t'=.pair a b∧False).2).elim
    | cons v ws =>
     obtain ⟨_,c1,c2,rfl,h1,h2⟩:=(h:t'=.pair a b∧∃ c1 c2,cs=c1 ++ c2∧CR β hp w N a false v [] c1∧CR β hp w N b true .none ws c2)
     simp [Ty.size,iha h1,ihb h2]
   | _=>exact leaf _ _ _ h
 | unit =>
  intro tl sv vs cs h
  cases tl with
  | true=>obtain ⟨_,rfl⟩:=(h:vs=[]∧cs=[]);rfl
  | false=>cases sv with
   | agg t' ws=>obtain ⟨_,_,rfl⟩:=(h:t'=.unit∧ws=[]∧cs=[]);rfl
   | _=>exact leaf _ _ _ h
 | int j=>intro tl sv vs cs h;cases tl with | true=>exact (h:False).elim | false=>exact leaf _ _ _ h
 | bool=>intro tl sv vs cs h;cases tl with | true=>exact (h:False).elim | false=>exact leaf _ _ _ h
 | str=>intro tl sv vs cs h;cases tl with | true=>exact (h:False).elim | false=>exact leaf _ _ _ h
 | opq=>intro tl sv vs cs h;cases tl with | true=>exact (h:False).elim | false=>exact leaf _ _ _ h
 | list u=>intro tl sv vs cs h;cases tl with | true=>exact (h:False).elim | false=>exact leaf _ _ _ h
 | arr n u=>intro tl sv vs cs h;cases tl with | true=>exact (h:False).elim | false=>exact leaf _ _ _ h
theorem CR.of_imm (t:Ty) {x:t.denote} {cs:List Value} (h:rel w N t x cs):CR β hp w N t false (.imm t x) [] cs:=by
 cases t <;> exact ⟨rfl,h⟩
theorem CR.imm_inv {t t':Ty} {x:t'.denote} {cs:List Value} (h:CR β hp w N t false (.imm t' x) [] cs):t'=t∧rel w N t' x cs:=by
 cases t <;> exact h
theorem CR.agg_inv {t t':Ty} {vs:List SV} {cs:List Value} (h:CR β hp w N t false (.agg t' vs) [] cs):t'=t∧t.isAgg=true∧CR β hp w N t true .none vs cs:=by
 cases t with
 | pair a b=>cases vs with
  | nil=>exact ((h:t'=.pair a b∧False).2).elim
  | cons v vs=>exact ⟨h.1,rfl,h.2⟩
 | unit=>exact ⟨h.1,rfl,h.2⟩
 | _=>exact (h:False).elim
theorem CR.agg {t:Ty} {vs:List SV} {cs:List Value} (h:CR β hp w N t true .none vs cs):CR β hp w N t false (.agg t vs) [] cs:=by
 cases t with
 | pair a b=>cases vs with
  | nil=>exact (h:False).elim
  | cons v vs=>exact ⟨rfl,h⟩
 | unit=>exact ⟨rfl,h⟩
 | _=>exact (h:False).elim
theorem CR.toVR {t:Ty} {sv:SV} {cs:List Value} (h:CR β hp w N t false sv [] cs):VR β hp w N sv (valOf t cs):=by
 cases sv with
 | imm t' x=>obtain ⟨rfl,hx⟩:=h.imm_inv;exact ⟨cs,hx,rfl⟩
 | agg t' vs =>
  obtain ⟨rfl,ha,_⟩:=h.agg_inv
  refine (⟨cs,?_,h⟩:∃ cs',valOf t' cs=.agg cs'.toArray∧CR β hp w N t' false (.agg t' vs) [] cs')
  unfold valOf;rw [ha]
 | nilS=>cases t with
  | list u=>obtain ⟨_,c,rfl,hc⟩:=(h:(∃ v,Ty.list u=.list v)∧∃ c,cs=[c]∧LR β hp w N .nilS c);exact hc
  | _=>obtain ⟨⟨u,hu⟩,_⟩:=h;cases hu
 | own id ver=>cases t with
  | list u=>obtain ⟨_,c,rfl,hc⟩:=(h:(∃ v,Ty.list u=.list v)∧∃ c,cs=[c]∧LR β hp w N (.own id ver) c);exact hc
  | _=>obtain ⟨⟨u,hu⟩,_⟩:=h;cases hu
 | nilP=>cases t with
  | opq=>obtain ⟨_,c,rfl,hc⟩:=(h:Ty.opq=.opq∧∃ c,cs=[c]∧LR β hp w N .nilP c);exact hc
  | _=>obtain ⟨hu,_⟩:=h;cases hu
 | ptr id ver p u=>cases t with
  | opq=>obtain ⟨_,c,rfl,hc⟩:=(h:Ty.opq=.opq∧∃ c,cs=[c]∧LR β hp w N (.ptr id ver p u) c);exact hc
  | _=>obtain ⟨hu,_⟩:=h;cases hu
 | mph id=>cases t with
  | opq=>obtain ⟨_,c,rfl,hc⟩:=(h:Ty.opq=.opq∧∃ c,cs=[c]∧LR β hp w N (.mph id) c);exact hc
  | _=>obtain ⟨hu,_⟩:=h;cases hu
 | mp a b c=>cases t <;> exact (h:False).elim
 | dead a=>cases t <;> exact (h:False).elim
 | none=>cases t <;> exact (h:False).elim
 | iptr t' x=>cases t <;> exact (h:False).elim
 | fn f=>cases t <;> exact (h:False).elim
 | sub _ _ _ _ _=>cases t <;> exact (h:False).elim
 | clo _ _=>cases t <;> exact (h:False).elim
 | tup vs=>cases t <;> exact (h:False).elim
 | row a b c d e=>cases t <;> exact (h:False).elim
theorem fldA_elim:∀ (t:Ty) (x:t.denote) (n:Nat) (cs:List Value) (o:Nat) (u:Ty) (k:(t:Ty)→t.denote→Acc P G α),run (fldA t x n k) fr hp=some r→rel w N t x cs→fldOff t n=some (o,u) →
 ∃ y:u.denote,rel w N u y (sub cs o u.size)∧run (k u y) fr hp=some r
 | .pair a b,x,0,cs,o,u,k,hr,hx,ho=>by
  simp only [fldOff,Option.some.injEq,Prod.mk.injEq] at ho
  obtain ⟨rfl,rfl⟩:=ho
  obtain ⟨c1,c2,rfl,h1,h2⟩:=hx
  refine ⟨x.1,?_,hr⟩
  have:=rel_len a _ _ h1
  rw [sub_left _ _ (by omega),← this,sub_all]
  exact h1
 | .pair a b,x,n + 1,cs,o,u,k,hr,hx,ho=>by
  simp only [fldOff] at ho
  split at ho
  ·rename_i o' u' ho'
   simp only [Option.some.injEq,Prod.mk.injEq] at ho
   obtain ⟨rfl,rfl⟩:=ho
   obtain ⟨c1,c2,rfl,h1,h2⟩:=hx
   obtain ⟨y,hy,hr⟩:=fldA_elim b x.2 n c2 o' u' k hr h2 ho'
   refine ⟨y,?_,hr⟩
   rw [← rel_len a _ _ h1,sub_right]
   exact hy
  ·cases ho
 | .int _,_,_,_,_,_,_,_,_,ho=>by simp [fldOff] at ho
 | .bool,_,_,_,_,_,_,_,_,ho=>by simp [fldOff] at ho
 | .str,_,_,_,_,_,_,_,_,ho=>by simp [fldOff] at ho
 | .unit,_,_,_,_,_,_,_,_,ho=>by simp [fldOff] at ho
 | .opq,_,_,_,_,_,_,_,_,ho=>by simp [fldOff] at ho
 | .list _,_,_,_,_,_,_,_,_,ho=>by simp [fldOff] at ho
 | .arr _ _,_,_,_,_,_,_,_,_,ho=>by simp [fldOff] at ho
theorem nthA_elim:∀ (t:Ty) (vs:List SV) (n:Nat) (cs:List Value) (o:Nat) (u:Ty) (k:SV→Acc P G α),run (nthA vs n k) fr hp=some r→CR β hp w N t true .none vs cs→fldOff t n=some (o,u) →
 ∃ sv,CR β hp w N u false sv [] (sub cs o u.size)∧run (k sv) fr hp=some r
 | .pair a b,v :: vs,0,cs,o,u,k,hr,hx,ho=>by
  simp only [fldOff,Option.some.injEq,Prod.mk.injEq] at ho
  obtain ⟨rfl,rfl⟩:=ho
  obtain ⟨c1,c2,rfl,h1,h2⟩:=hx
  refine ⟨v,?_,hr⟩
  have:=h1.len
  rw [sub_left _ _ (by omega),← this,sub_all]
  exact h1
 | .pair a b,v :: vs,n + 1,cs,o,u,k,hr,hx,ho=>by
  simp only [fldOff] at ho
  split at ho
  ·rename_i o' u' ho'
   simp only [Option.some.injEq,Prod.mk.injEq] at ho
   obtain ⟨rfl,rfl⟩:=ho
   obtain ⟨c1,c2,rfl,h1,h2⟩:=hx
   obtain ⟨y,hy,hr⟩:=nthA_elim b vs n c2 o' u' k hr h2 ho'
   refine ⟨y,?_,hr⟩
   rw [← h1.len,sub_right]
   exact hy
  ·cases ho
 | .pair a b,[],_,_,_,_,_,hr,_,_=>by cases ‹Nat› <;> exact fail_elim hr
 | .unit,_,_,_,_,_,_,_,_,ho=>by simp [fldOff] at ho
 | .int _,_,_,_,_,_,_,_,hx,_=>(hx:False).elim
 | .bool,_,_,_,_,_,_,_,hx,_=>(hx:False).elim
 | .str,_,_,_,_,_,_,_,hx,_=>(hx:False).elim
 | .opq,_,_,_,_,_,_,_,hx,_=>(hx:False).elim
 | .list _,_,_,_,_,_,_,_,hx,_=>(hx:False).elim
 | .arr _ _,_,_,_,_,_,_,_,hx,_=>(hx:False).elim
theorem rdL_get {t:Ty} {xs:List t.denote} {i:Int} (h:0 ≤ i∧i < xs.length):∃ hi:i.toNat < xs.length,rdL t.zero xs i=xs[i.toNat]:=by
 have hi:i.toNat < xs.length:=by omega
 exact ⟨hi,by simp [rdL,List.getD,hi]⟩
theorem sub_flat {n:Nat}:∀ (css:List (List Value)),(∀ c ∈ css,c.length=n)→∀ (i:Nat) (hi:i < css.length),sub css.flatten (i * n) n=css[i]
 | [],_,_,hi=>by simp at hi
 | c :: css,h,0,hi=>by
  have hc:=h c (by simp)
  simp only [List.flatten_cons,Nat.zero_mul,List.getElem_cons_zero]
  rw [sub_left _ _ (by omega),← hc,sub_all]
 | c :: css,h,i + 1,hi=>by
  have hc:=h c (by simp)
  simp only [List.flatten_cons,List.getElem_cons_succ]
  rw [show (i + 1) * n=c.length + i * n by rw [hc,Nat.succ_mul];omega,sub_right]
  exact sub_flat css (fun d hd=>h d (by simp [hd])) i (by simpa using hi)
theorem rel_arr_at {n:Nat} {t:Ty} {xs:List t.denote} {cs:List Value} {i:Int} (h:rel w N (.arr n t) xs cs) (hi:0 ≤ i∧i < n):rel w N t (rdL t.zero xs i) (sub cs (i.toNat * t.size) t.size):=by
 obtain ⟨hn,css,rfl,hl,h⟩:=h
 obtain ⟨hi',e⟩:=rdL_get (t:=t) (xs:=xs) (i:=i) (by omega)
 rw [e]
 have hlen:∀ c ∈ css,c.length=t.size:=fun c hc=>by
  obtain ⟨k,hk,rfl⟩:=List.getElem_of_mem hc
  exact rel_len t _ _ (h k (by omega) hk)
 rw [sub_flat css hlen _ (by omega)]
 exact h _ hi' (by omega)
theorem getA_elim:∀ (p:List Step) (sv:SV) (t:Ty) (cs:List Value) (o:Nat) (u:Ty) (k:SV→Acc P G α),run (getA p sv k) fr hp=some r→CR β hp w N t false sv [] cs→pathOff t p=some (o,u) →
 ∃ sv',CR β hp w N u false sv' [] (sub cs o u.size)∧run (k sv') fr hp=some r
 | [],sv,t,cs,o,u,k,hr,hc,ho=>by
  simp only [pathOff,Option.some.injEq,Prod.mk.injEq] at ho
  obtain ⟨rfl,rfl⟩:=ho
  exact ⟨sv,by rw [← hc.len,sub_all];exact hc,hr⟩
 | .fld n :: p,sv,t,cs,o,u,k,hr,hc,ho=>by
  simp only [pathOff] at ho
  split at ho
  ·rename_i o1 u1 h1
   split at ho
   ·rename_i o2 u2 h2
    simp only [Option.some.injEq,Prod.mk.injEq] at ho
    obtain ⟨rfl,rfl⟩:=ho
    have h1':fldOff t n=some (o1,u1):=by cases t <;> exact h1
    cases sv with
    | imm t' x =>
     obtain ⟨rfl,hx⟩:=hc.imm_inv
     obtain ⟨y,hy,hr⟩:=fldA_elim t' x n cs o1 u1 _ hr hx h1'
     obtain ⟨sv',hs,hr⟩:=getA_elim p (.imm u1 y) u1 _ o2 u2 k hr (CR.of_imm u1 hy) h2
     exact ⟨sv',by rwa [sub_sub _ (pathOff_le p _ _ _ h2)] at hs,hr⟩
    | agg t' vs =>
     obtain ⟨rfl,_,hx⟩:=hc.agg_inv
     obtain ⟨y,hy,hr⟩:=nthA_elim t' vs n cs o1 u1 _ hr hx h1'
     obtain ⟨sv',hs,hr⟩:=getA_elim p y u1 _ o2 u2 k hr hy h2
     exact ⟨sv',by rwa [sub_sub _ (pathOff_le p _ _ _ h2)] at hs,hr⟩
    | _=>exact fail_elim hr
   ·cases ho
  ·cases ho
 | .idx i :: p,sv,t,cs,o,u,k,hr,hc,ho=>by
  simp only [pathOff] at ho
  split at ho
  ·rename_i o1 u1 h1
   split at ho
   ·rename_i o2 u2 h2
    simp only [Option.some.injEq,Prod.mk.injEq] at ho
    obtain ⟨rfl,rfl⟩:=ho
    unfold stepOff at h1
    split at h1
    ·cases ‹Step.idx i=_›
    ·rename_i n t0 i' he
     cases he
     split at h1
     ·rename_i hi
      simp only [Option.some.injEq,Prod.mk.injEq] at h1
      obtain ⟨rfl,rfl⟩:=h1
      cases sv with
      | imm t' x =>
       obtain ⟨rfl,hx⟩:=hc.imm_inv
       obtain ⟨sv',hs,hr⟩:=getA_elim p (.imm t0 (rdL t0.zero x i)) t0 _ o2 u2 k hr (CR.of_imm t0 (rel_arr_at hx hi)) h2
       exact ⟨sv',by rwa [sub_sub _ (pathOff_le p _ _ _ h2)] at hs,hr⟩
      | row a b c d e=>exact (hc:False).elim
      | _=>exact fail_elim hr
     ·cases h1
    ·cases h1
   ·cases ho
  ·cases ho
end Ev
end Go.Proofs.YtlfcdmibknmjeaaGreatDoor
namespace Go.Proofs.YtlfcdmibknmjeaaGreatDoor
namespace Ev
open Go Go.RowKit
variable {P:Program} {G:List GV} {α:Type} {E:Entry} {fr hp:List SV} {tm:Array Value} {w:World} {β:Nat→BI} {N:Reg} {r:α × List SV × List SV}
def over (cs:List Value) (o:Nat) (new:List Value):List Value:=cs.take o ++ new ++ cs.drop (o + new.length)
theorem over_all (cs new:List Value) (h:new.length=cs.length):over cs 0 new=new:=by simp [over,h]
theorem over_len (cs:List Value) {o:Nat} {new:List Value} (h:o + new.length ≤ cs.length):(over cs o new).length=cs.length:=by simp [over];omega
theorem over_over (cs:List Value) {o n o':Nat} {new:List Value} (h:o' + new.length ≤ n) (h2:o + n ≤ cs.length):over cs o (over (sub cs o n) o' new)=over cs (o + o') new:=by
 have hl:(sub cs o n).length=n:=by simp [sub];omega
 have hl2:(over (sub cs o n) o' new).length=n:=by rw [over_len _ (by omega),hl]
 unfold over at *
 rw [hl2]
 simp only [sub,List.take_take,List.drop_take,List.drop_drop,List.append_assoc]
 rw [Nat.min_eq_left (by omega)]
 rw [← List.append_assoc (cs.take o),← List.take_add]
 congr 1
 congr 1
 have:cs.drop (o + o' + new.length)=(cs.drop (o + (o' + new.length))).take (n - (o' + new.length)) ++ cs.drop (o + n):=by
  conv=>lhs;rw [← List.take_append_drop (n - (o' + new.length)) (cs.drop (o + o' + new.length))]
  rw [List.drop_drop]
  congr 2
  ·congr 1;omega
  ·omega
 rw [this]
theorem over_left (a b:List Value) {o:Nat} {new:List Value} (h:o + new.length ≤ a.length):over (a ++ b) o new=over a o new ++ b:=by
 unfold over
 rw [List.take_append_of_le_length (by omega),List.drop_append_of_le_length (by omega)]
 simp
theorem over_right (a b:List Value) (o:Nat) (new:List Value):over (a ++ b) (a.length + o) new=a ++ over b o new:=by
 unfold over
 rw [List.take_append,List.take_of_length_le (by omega),List.drop_append,List.drop_eq_nil_of_le (by omega)]
 simp [Nat.add_assoc]
theorem one_cells {v:Value} (h:v.oneCell'=true):v.cells=#[v]:=by
 cases v <;> first | rfl | (simp [Value.oneCell'] at h)
theorem rel_one:∀ (t:Ty) (x:t.denote) (cs:List Value),rel w N t x cs→∀ c ∈ cs,c.oneCell'=true
 | .opq,_,_,h=>by obtain ⟨v,rfl,h⟩:=h;intro c hc;simp at hc;subst hc;exact h
 | .int k,_,_,h=>by cases h;intro c hc;simp at hc;subst hc;rfl
 | .bool,_,_,h=>by cases h;intro c hc;simp at hc;subst hc;rfl
 | .str,_,_,h=>by cases h;intro c hc;simp at hc;subst hc;rfl
 | .unit,_,_,h=>by cases h;intro c hc;cases hc
 | .list t,_,_,h=>by obtain ⟨A,cap,rfl,_⟩:=h;intro c hc;simp at hc;subst hc;rfl
 | .pair a b,x,cs,h=>by
  obtain ⟨c1,c2,rfl,h1,h2⟩:=h
  intro c hc
  rcases List.mem_append.1 hc with hc | hc
  ·exact rel_one a _ _ h1 c hc
  ·exact rel_one b _ _ h2 c hc
 | .arr n t,x,cs,h=>by
  obtain ⟨hn,css,rfl,hl,h⟩:=h
  intro c hc
  obtain ⟨d,hd,hc⟩:=List.mem_flatten.1 hc
  obtain ⟨i,hi,rfl⟩:=List.getElem_of_mem hd
  exact rel_one t _ _ (h i (by omega) hi) c hc
theorem LR.one {sv:SV} {v:Value} (h:LR β hp w N sv v) (hs:match sv with | .nilS | .nilP | .own _ _ | .ptr _ _ _ _ | .mph _=>True | _=>False):v.oneCell'=true:=by
 cases sv with
 | nilS=>have h:v=.slice none 0 0:=h;subst h;rfl
 | nilP=>have h:v=.pointer none:=h;subst h;rfl
 | own id ver=>exact h.2.2.1
 | ptr id ver p t=>obtain ⟨ad,e⟩:=h.2.2.1;subst e;rfl
 | mph id=>obtain ⟨ad,e⟩:=h.2.1;subst e;rfl
 | _=>exact hs.elim
theorem CR.one {t:Ty}:∀ {tl:Bool} {sv:SV} {vs:List SV} {cs:List Value},CR β hp w N t tl sv vs cs→∀ c ∈ cs,c.oneCell'=true:=by
 have leaf:∀ (t:Ty) (sv:SV) (cs:List Value),LeafC β hp w N t sv cs→∀ c ∈ cs,c.oneCell'=true:=by
  intro t sv cs h
  cases sv with
  | imm t' x=>obtain ⟨rfl,h⟩:=h;exact rel_one _ _ _ h
  | nilS=>obtain ⟨⟨u,rfl⟩,c,rfl,h⟩:=h;intro d hd;simp at hd;subst hd;exact h.one trivial
  | own id ver=>obtain ⟨⟨u,rfl⟩,c,rfl,h⟩:=h;intro d hd;simp at hd;subst hd;exact h.one trivial
  | nilP=>obtain ⟨rfl,c,rfl,h⟩:=h;intro d hd;simp at hd;subst hd;exact h.one trivial
  | ptr id ver p t=>obtain ⟨rfl,c,rfl,h⟩:=h;intro d hd;simp at hd;subst hd;exact h.one trivial
  | mph id=>obtain ⟨rfl,c,rfl,h⟩:=h;intro d hd;simp at hd;subst hd;exact h.one trivial
  | _=>exact (h:False).elim
 induction t with
 | pair a b iha ihb =>
  intro tl sv vs cs h
  cases tl with
  | true =>
   cases vs with
   | nil=>exact (h:False).elim
   | cons v vs =>
    obtain ⟨c1,c2,rfl,h1,h2⟩:=(h:∃ c1 c2,cs=c1 ++ c2∧CR β hp w N a false v [] c1∧CR β hp w N b true .none vs c2)
    intro c hc
    rcases List.mem_append.1 hc with hc | hc
    ·exact iha h1 c hc
    ·exact ihb h2 c hc
  | false =>
   cases sv with
   | agg t' ws =>
    cases ws with
    | nil=>exact ((h:t'=.pair a b∧False).2).elim
    | cons v ws =>
     obtain ⟨_,c1,c2,rfl,h1,h2⟩:=(h:t'=.pair a b∧∃ c1 c2,cs=c1 ++ c2∧CR β hp w N a false v [] c1∧CR β hp w N b true .none ws c2)
     intro c hc
     rcases List.mem_append.1 hc with hc | hc
     ·exact iha h1 c hc
     ·exact ihb h2 c hc
   | _=>exact leaf _ _ _ h
 | unit =>
  intro tl sv vs cs h
  cases tl with
  | true=>obtain ⟨_,rfl⟩:=(h:vs=[]∧cs=[]);intro c hc;cases hc
  | false=>cases sv with
   | agg t' ws=>obtain ⟨_,_,rfl⟩:=(h:t'=.unit∧ws=[]∧cs=[]);intro c hc;cases hc
   | _=>exact leaf _ _ _ h
 | int j=>intro tl sv vs cs h;cases tl with | true=>exact (h:False).elim | false=>exact leaf _ _ _ h
 | bool=>intro tl sv vs cs h;cases tl with | true=>exact (h:False).elim | false=>exact leaf _ _ _ h
 | str=>intro tl sv vs cs h;cases tl with | true=>exact (h:False).elim | false=>exact leaf _ _ _ h
 | opq=>intro tl sv vs cs h;cases tl with | true=>exact (h:False).elim | false=>exact leaf _ _ _ h
 | list u=>intro tl sv vs cs h;cases tl with | true=>exact (h:False).elim | false=>exact leaf _ _ _ h
 | arr n u=>intro tl sv vs cs h;cases tl with | true=>exact (h:False).elim | false=>exact leaf _ _ _ h
theorem cells_valOf {t:Ty} {cs:List Value} (hl:cs.length=t.size) (h1:∀ c ∈ cs,c.oneCell'=true):(valOf t cs).cells.toList=cs:=by
 unfold valOf
 cases ht:t.isAgg with
 | true=>rfl
 | false =>
  have hs:t.size=1:=by cases t <;> simp [Ty.isAgg] at ht <;> rfl
  match cs,hl.trans hs with
  | [c],_=>simp [one_cells (h1 c (by simp))]
theorem fitA_elim {t:Ty} {v:SV} {u:Value} {k:Acc P G α} (hr:run (fitA t v k) fr hp=some r) (hv:VR β hp w N v u) :
 CR β hp w N t false v [] u.cells.toList∧u=valOf t u.cells.toList∧run k fr hp=some r:=by
 have fin:∀ cs,CR β hp w N t false v [] cs→u=valOf t cs→run k fr hp=some r→CR β hp w N t false v [] u.cells.toList∧u=valOf t u.cells.toList∧run k fr hp=some r:=by
  intro cs h e hr
  have:u.cells.toList=cs:=by rw [e];exact cells_valOf h.len h.one
  rw [this]
  exact ⟨h,e,hr⟩
 cases v with
 | imm t' x =>
  obtain ⟨e,hr1⟩:=eqA_elim (show run (eqA t' t k) fr hp=some r from hr)
  subst e
  obtain ⟨cs,h1,h2⟩:=(hv:IsImm w N t' x u)
  exact fin cs (CR.of_imm _ h1) h2 hr1
 | agg t' vs =>
  obtain ⟨e,hr1⟩:=eqA_elim (show run (eqA t' t k) fr hp=some r from hr)
  subst e
  obtain ⟨cs,h1,h2⟩:=(hv:∃ cs,u=.agg cs.toArray∧CR β hp w N t' false (.agg t' vs) [] cs)
  exact fin cs h2 (by rw [h1];unfold valOf;rw [h2.agg_inv.2.1]) hr1
 | nilS =>
  simp only [fitA] at hr
  split at hr
  ·exact fin [u] (⟨⟨_,rfl⟩,u,rfl,hv⟩:(∃ v,Ty.list _=.list v)∧∃ c,[u]=[c]∧LR β hp w N .nilS c) rfl hr
  ·exact fail_elim hr
 | own id ver =>
  simp only [fitA] at hr
  split at hr
  ·exact fin [u] (⟨⟨_,rfl⟩,u,rfl,hv⟩:(∃ v,Ty.list _=.list v)∧∃ c,[u]=[c]∧LR β hp w N (.own id ver) c) rfl hr
  ·exact fail_elim hr
 | nilP =>
  simp only [fitA] at hr
  split at hr
  ·exact fin [u] (⟨rfl,u,rfl,hv⟩:Ty.opq=.opq∧∃ c,[u]=[c]∧LR β hp w N .nilP c) rfl hr
  ·exact fail_elim hr
 | ptr id ver p t' =>
  simp only [fitA] at hr
  split at hr
  ·exact fin [u] (⟨rfl,u,rfl,hv⟩:Ty.opq=.opq∧∃ c,[u]=[c]∧LR β hp w N (.ptr id ver p t') c) rfl hr
  ·exact fail_elim hr
 | mph id =>
  simp only [fitA] at hr
  split at hr
  ·exact fin [u] (⟨rfl,u,rfl,hv⟩:Ty.opq=.opq∧∃ c,[u]=[c]∧LR β hp w N (.mph id) c) rfl hr
  ·exact fail_elim hr
 | _=>exact fail_elim hr
theorem setFldA_elim:∀ (t:Ty) (x:t.denote) (n:Nat) (cs:List Value) (o:Nat) (u u':Ty) (y:u'.denote) (ys:List Value) (k:t.denote→Acc P G α),run (setFldA t x n u' y k) fr hp=some r→rel w N t x cs →
 fldOff t n=some (o,u)→rel w N u' y ys→ys.length=u.size→∃ z,rel w N t z (over cs o ys)∧run (k z) fr hp=some r
 | .pair a b,x,0,cs,o,u,u',y,ys,k,hr,hx,ho,hy,hl=>by
  simp only [fldOff,Option.some.injEq,Prod.mk.injEq] at ho
  obtain ⟨rfl,rfl⟩:=ho
  obtain ⟨c1,c2,rfl,h1,h2⟩:=hx
  obtain ⟨e,hr⟩:=castA_elim (show run (castA u' a y fun y=>k (y,x.2)) fr hp=some r from hr)
  subst e
  refine ⟨(y,x.2),⟨ys,c2,?_,hy,h2⟩,hr⟩
  have h3:=rel_len u' _ _ h1
  rw [over_left _ _ (by omega),over_all _ _ (by omega)]
 | .pair a b,x,n + 1,cs,o,u,u',y,ys,k,hr,hx,ho,hy,hl=>by
  simp only [fldOff] at ho
  split at ho
  ·rename_i o1 u1 ho1
   simp only [Option.some.injEq,Prod.mk.injEq] at ho
   obtain ⟨rfl,rfl⟩:=ho
   obtain ⟨c1,c2,rfl,h1,h2⟩:=hx
   obtain ⟨z,hz,hr⟩:=setFldA_elim b x.2 n c2 o1 u1 u' y ys _ hr h2 ho1 hy hl
   refine ⟨(x.1,z),⟨c1,_,?_,h1,hz⟩,hr⟩
   rw [← rel_len a _ _ h1,over_right]
  ·cases ho
 | .int _,_,_,_,_,_,_,_,_,_,_,_,ho,_,_=>by simp [fldOff] at ho
 | .bool,_,_,_,_,_,_,_,_,_,_,_,ho,_,_=>by simp [fldOff] at ho
 | .str,_,_,_,_,_,_,_,_,_,_,_,ho,_,_=>by simp [fldOff] at ho
 | .unit,_,_,_,_,_,_,_,_,_,_,_,ho,_,_=>by simp [fldOff] at ho
 | .opq,_,_,_,_,_,_,_,_,_,_,_,ho,_,_=>by simp [fldOff] at ho
 | .list _,_,_,_,_,_,_,_,_,_,_,_,ho,_,_=>by simp [fldOff] at ho
 | .arr _ _,_,_,_,_,_,_,_,_,_,_,_,ho,_,_=>by simp [fldOff] at ho
theorem partsA_elim:∀ (t:Ty) (x:t.denote) (cs:List Value) (k:List SV→Acc P G α),run (partsA t x k) fr hp=some r→rel w N t x cs→∃ vs,CR β hp w N t true .none vs cs∧run (k vs) fr hp=some r
 | .pair a b,x,cs,k,hr,hx=>by
  obtain ⟨c1,c2,rfl,h1,h2⟩:=hx
  obtain ⟨vs,hv,hr⟩:=partsA_elim b x.2 c2 _ hr h2
  exact ⟨.imm a x.1 :: vs,⟨c1,c2,rfl,CR.of_imm a h1,hv⟩,hr⟩
 | .unit,x,cs,k,hr,hx=>⟨[],⟨rfl,hx⟩,hr⟩
 | .int _,_,_,_,hr,_=>fail_elim hr
 | .bool,_,_,_,hr,_=>fail_elim hr
 | .str,_,_,_,hr,_=>fail_elim hr
 | .opq,_,_,_,hr,_=>fail_elim hr
 | .list _,_,_,_,hr,_=>fail_elim hr
 | .arr _ _,_,_,_,hr,_=>fail_elim hr
theorem putA_elim:∀ (t:Ty) (vs:List SV) (n:Nat) (z:SV) (cs:List Value) (o:Nat) (u:Ty) (ys:List Value) (k:List SV→Acc P G α),run (putA vs n z k) fr hp=some r→CR β hp w N t true .none vs cs →
 fldOff t n=some (o,u)→CR β hp w N u false z [] ys→∃ vs',CR β hp w N t true .none vs' (over cs o ys)∧run (k vs') fr hp=some r
 | .pair a b,v :: vs,0,z,cs,o,u,ys,k,hr,hx,ho,hy=>by
  simp only [fldOff,Option.some.injEq,Prod.mk.injEq] at ho
  obtain ⟨rfl,rfl⟩:=ho
  obtain ⟨c1,c2,rfl,h1,h2⟩:=hx
  refine ⟨z :: vs,⟨ys,c2,?_,hy,h2⟩,hr⟩
  have h3:=h1.len
  have h4:=hy.len
  rw [over_left _ _ (by omega),over_all _ _ (by omega)]
 | .pair a b,v :: vs,n + 1,z,cs,o,u,ys,k,hr,hx,ho,hy=>by
  simp only [fldOff] at ho
  split at ho
  ·rename_i o1 u1 ho1
   simp only [Option.some.injEq,Prod.mk.injEq] at ho
   obtain ⟨rfl,rfl⟩:=ho
   obtain ⟨c1,c2,rfl,h1,h2⟩:=hx
   obtain ⟨vs',hz,hr⟩:=putA_elim b vs n z c2 o1 u1 ys _ hr h2 ho1 hy
   refine ⟨v :: vs',⟨c1,_,?_,h1,hz⟩,hr⟩
   rw [← h1.len,over_right]
  ·cases ho
 | .pair a b,[],_,_,_,_,_,_,_,hr,_,_,_=>by cases ‹Nat› <;> exact fail_elim hr
 | .unit,_,_,_,_,_,_,_,_,_,_,ho,_=>by simp [fldOff] at ho
 | .int _,_,_,_,_,_,_,_,_,_,hx,_,_=>(hx:False).elim
 | .bool,_,_,_,_,_,_,_,_,_,hx,_,_=>(hx:False).elim
 | .str,_,_,_,_,_,_,_,_,_,hx,_,_=>(hx:False).elim
 | .opq,_,_,_,_,_,_,_,_,_,hx,_,_=>(hx:False).elim
 | .list _,_,_,_,_,_,_,_,_,_,hx,_,_=>(hx:False).elim
 | .arr _ _,_,_,_,_,_,_,_,_,_,hx,_,_=>(hx:False).elim
theorem rel_arr_set {n:Nat} {t:Ty} {xs:List t.denote} {cs:List Value} {i:Int} {y:t.denote} {ys:List Value} (h:rel w N (.arr n t) xs cs) (hi:0 ≤ i∧i < n) (hy:rel w N t y ys) :
 rel w N (.arr n t) (xs.set i.toNat y) (over cs (i.toNat * t.size) ys):=by
 obtain ⟨hn,css,rfl,hl,h⟩:=h
 have hlen:∀ c ∈ css,c.length=t.size:=fun c hc=>by
  obtain ⟨k,hk,rfl⟩:=List.getElem_of_mem hc
  exact rel_len t _ _ (h k (by omega) hk)
 refine ⟨by simpa using hn,css.set i.toNat ys,?_,by simpa using hl,fun j hj hj'=>?_⟩
 ·have hil:i.toNat < css.length:=by omega
  have hy':=rel_len t _ _ hy
  have key:∀ (css:List (List Value)) (m:Nat),(∀ c ∈ css,c.length=t.size)→m < css.length→over css.flatten (m * t.size) ys=(css.set m ys).flatten:=by
   intro css
   induction css with
   | nil=>intro m _ hm;simp at hm
   | cons c css ih =>
    intro m hc hm
    have hc0:=hc c (by simp)
    cases m with
    | zero =>
     simp only [List.flatten_cons,Nat.zero_mul,List.set_cons_zero]
     rw [over_left _ _ (by omega),over_all _ _ (by omega)]
    | succ m =>
     simp only [List.flatten_cons,List.set_cons_succ]
     rw [show (m + 1) * t.size=c.length + m * t.size by rw [hc0,Nat.succ_mul];omega,over_right,ih m (fun d hd=>hc d (by simp [hd])) (by simpa using hm)]
  exact key css i.toNat hlen hil
 ·rw [List.getElem_set,List.getElem_set]
  split
  ·exact hy
  ·exact h j (by simpa using hj) (by simpa using hj')
end Ev
end Go.Proofs.YtlfcdmibknmjeaaGreatDoor
namespace Go.Proofs.YtlfcdmibknmjeaaGreatDoor
namespace Ev
open Go Go.RowKit
variable {P:Program} {G:List GV} {α:Type} {E:Entry} {fr hp:List SV} {tm:Array Value} {w:World} {β:Nat→BI} {N:Reg} {r:α × List SV × List SV}
theorem fitA_run {t:Ty} {v:SV} {k:Acc P G α} (hr:run (fitA t v k) fr hp=some r):run k fr hp=some r:=by
 cases v with
 | imm t' x=>exact (eqA_elim (show run (eqA t' t k) fr hp=some r from hr)).2
 | agg t' vs=>exact (eqA_elim (show run (eqA t' t k) fr hp=some r from hr)).2
 | nilS=>simp only [fitA] at hr;split at hr;exact hr;exact fail_elim hr
 | own id ver=>simp only [fitA] at hr;split at hr;exact hr;exact fail_elim hr
 | nilP=>simp only [fitA] at hr;split at hr;exact hr;exact fail_elim hr
 | ptr id ver p t'=>simp only [fitA] at hr;split at hr;exact hr;exact fail_elim hr
 | mph id=>simp only [fitA] at hr;split at hr;exact hr;exact fail_elim hr
 | _=>exact fail_elim hr
theorem setA_elim:∀ (p:List Step) (old v:SV) (t:Ty) (cs:List Value) (o:Nat) (u:Ty) (ys:List Value) (k:SV→Acc P G α),run (setA p old v k) fr hp=some r→CR β hp w N t false old [] cs →
 pathOff t p=some (o,u)→CR β hp w N u false v [] ys→∃ new,CR β hp w N t false new [] (over cs o ys)∧run (k new) fr hp=some r
 | [],old,v,t,cs,o,u,ys,k,hr,hc,ho,hy=>by
  simp only [pathOff,Option.some.injEq,Prod.mk.injEq] at ho
  obtain ⟨rfl,rfl⟩:=ho
  refine ⟨v,by rw [over_all _ _ (by rw [hc.len,hy.len])];exact hy,?_⟩
  cases old with
  | imm t' x=>exact fitA_run hr
  | agg t' vs=>exact fitA_run hr
  | nilS=>simp only [setA] at hr;split at hr;exact hr;exact hr;exact hr;exact fail_elim hr
  | own id ver=>simp only [setA] at hr;split at hr;exact hr;exact hr;exact hr;exact fail_elim hr
  | nilP=>simp only [setA] at hr;split at hr;exact hr;exact hr;exact hr;exact hr;exact fail_elim hr
  | ptr id ver p t'=>simp only [setA] at hr;split at hr;exact hr;exact hr;exact hr;exact hr;exact fail_elim hr
  | mph id=>simp only [setA] at hr;split at hr;exact hr;exact hr;exact hr;exact hr;exact fail_elim hr
  | _=>exact fail_elim hr
 | .fld n :: p,old,v,t,cs,o,u,ys,k,hr,hc,ho,hy=>by
  simp only [pathOff] at ho
  split at ho
  ·rename_i o1 u1 h1
   split at ho
   ·rename_i o2 u2 h2
    simp only [Option.some.injEq,Prod.mk.injEq] at ho
    obtain ⟨rfl,rfl⟩:=ho
    have h1':fldOff t n=some (o1,u1):=by cases t <;> exact h1
    have hle:=fldOff_le _ _ _ _ h1'
    have hle2:=pathOff_le _ _ _ _ h2
    have hl:=hc.len
    have hyl:=hy.len
    cases old with
    | imm t' x =>
     obtain ⟨rfl,hx⟩:=hc.imm_inv
     obtain ⟨y,hy1,hr⟩:=fldA_elim t' x n cs o1 u1 _ hr hx h1'
     obtain ⟨z,hz,hrz⟩:=setA_elim p (.imm u1 y) v u1 _ o2 u2 ys _ hr (CR.of_imm u1 hy1) h2 hy
     have hzl:=hz.len
     have fin:run (partsA t' x fun vs=>putA vs n z fun vs=>k (.agg t' vs)) fr hp=some r→∃ new,CR β hp w N t' false new [] (over cs (o1 + o2) ys)∧run (k new) fr hp=some r:=by
      intro hr
      obtain ⟨vs,hv,hr⟩:=partsA_elim t' x cs _ hr hx
      obtain ⟨vs',hv',hr⟩:=putA_elim t' vs n z cs o1 u1 _ _ hr hv h1' hz
      exact ⟨_,by rw [over_over cs (by omega) (by omega)] at hv';exact hv'.agg,hr⟩
     cases z with
     | imm u' y' =>
      obtain ⟨rfl,hz'⟩:=hz.imm_inv
      obtain ⟨x',hx',hr⟩:=setFldA_elim t' x n cs o1 u' u' y' _ _ hrz hx h1' hz' hzl
      exact ⟨_,by rw [over_over cs (by omega) (by omega)] at hx';exact CR.of_imm _ hx',hr⟩
     | _=>exact fin hrz
    | agg t' vs =>
     obtain ⟨rfl,_,hx⟩:=hc.agg_inv
     obtain ⟨y,hy1,hr⟩:=nthA_elim t' vs n cs o1 u1 _ hr hx h1'
     obtain ⟨z,hz,hr⟩:=setA_elim p y v u1 _ o2 u2 ys _ hr hy1 h2 hy
     obtain ⟨vs',hv',hr⟩:=putA_elim t' vs n z cs o1 u1 _ _ hr hx h1' hz
     exact ⟨_,by rw [over_over cs (by omega) (by omega)] at hv';exact hv'.agg,hr⟩
    | _=>exact fail_elim hr
   ·cases ho
  ·cases ho
 | .idx i :: p,old,v,t,cs,o,u,ys,k,hr,hc,ho,hy=>by
  simp only [pathOff] at ho
  split at ho
  ·rename_i o1 u1 h1
   split at ho
   ·rename_i o2 u2 h2
    simp only [Option.some.injEq,Prod.mk.injEq] at ho
    obtain ⟨rfl,rfl⟩:=ho
    have hle:=stepOff_le _ _ _ _ h1
    have hle2:=pathOff_le _ _ _ _ h2
    have hl:=hc.len
    have hyl:=hy.len
    unfold stepOff at h1
    split at h1
    ·cases ‹Step.idx i=_›
    ·rename_i n t0 i' he
     cases he
     split at h1
     ·rename_i hi
      simp only [Option.some.injEq,Prod.mk.injEq] at h1
      obtain ⟨rfl,rfl⟩:=h1
      cases old with
      | imm t' x =>
       obtain ⟨rfl,hx⟩:=hc.imm_inv
       obtain ⟨z,hz,hrz⟩:=setA_elim p (.imm t0 (rdL t0.zero x i)) v t0 _ o2 u2 ys _ hr (CR.of_imm t0 (rel_arr_at hx hi)) h2 hy
       cases z with
       | imm u' y' =>
        obtain ⟨rfl,hz'⟩:=hz.imm_inv
        obtain ⟨_,hr⟩:=castA_elim hrz
        exact ⟨_,by have:=rel_arr_set hx hi hz';rw [over_over cs (by omega) (by omega)] at this;exact CR.of_imm (.arr n u') this,hr⟩
       | _=>exact fail_elim hrz
      | row a b c d e=>exact (hc:False).elim
      | _=>exact fail_elim hr
     ·cases h1
    ·cases h1
   ·cases ho
  ·cases ho
theorem zArr_some {f:List Value→Bool} {k:Nat}:∀ {n:Nat} {cs:List Value},zArr f k n cs=true→(∀ c,f c=true→c.length=k)→∃ css:List (List Value),cs=css.flatten∧css.length=n∧∀ c ∈ css,f c=true
 | 0,cs,h,_=>⟨[],by simpa [zArr] using h,rfl,fun c hc=>by cases hc⟩
 | n + 1,cs,h,hf=>by
  simp only [zArr,Bool.and_eq_true] at h
  obtain ⟨css,h1,h2,h3⟩:=zArr_some h.2 hf
  refine ⟨cs.take k :: css,?_,by simp [h2],fun c hc=>?_⟩
  ·simp only [List.flatten_cons,← h1,List.take_append_drop]
  ·rcases List.mem_cons.1 hc with rfl | hc
   ·exact h.1
   ·exact h3 c hc
theorem zrel (w:World) (N:Reg):∀ (t:Ty) (cs:List Value),zChk t cs=true→rel w N t t.zero cs
 | .int k,cs,h=>by
  simp only [zChk] at h
  split at h
  ·simp only [Bool.and_eq_true,decide_eq_true_eq] at h;obtain ⟨rfl,rfl⟩:=h;rfl
  ·cases h
 | .bool,cs,h=>by
  simp only [zChk] at h
  split at h
  ·rename_i b;cases b <;> simp at h;rfl
  ·cases h
 | .str,cs,h=>by
  simp only [zChk] at h
  split at h
  ·rename_i s
   simp only [decide_eq_true_eq] at h
   have:s=⟨#[]⟩:=ByteArray.ext (Array.eq_empty_of_size_eq_zero h)
   rw [this];rfl
  ·cases h
 | .unit,cs,h=>by show cs=[];simpa [zChk] using h
 | .opq,cs,h=>by
  simp only [zChk] at h
  split at h
  ·exact ⟨_,rfl,h⟩
  ·cases h
 | .pair a b,cs,h=>by
  simp only [zChk,Bool.and_eq_true] at h
  exact ⟨cs.take a.size,cs.drop a.size,(List.take_append_drop _ _).symm,zrel w N a _ h.1,zrel w N b _ h.2⟩
 | .list t,cs,h=>by
  simp only [zChk] at h
  split at h
  ·exact ⟨none,0,rfl,Nat.le_refl _,fun i hi=>by cases hi⟩
  ·cases h
 | .arr n t,cs,h=>by
  obtain ⟨css,h1,h2,h3⟩:=zArr_some (n:=n) h (fun c hc=>rel_len t _ _ (zrel w N t c hc))
  refine ⟨by simp [Ty.zero],css,h1,h2,fun i hi hi'=>?_⟩
  simp only [Ty.zero,List.getElem_replicate]
  exact zrel w N t _ (h3 _ (List.getElem_mem hi'))
theorem zeroA_elim:∀ (t:Ty) (cs:List Value) (k:SV→Acc P G α),zChk t cs=true→run (zeroA t k) fr hp=some r→∃ sv,CR β hp w N t false sv [] cs∧run (k sv) fr hp=some r
 | .pair a b,cs,k,hz,hr=>by
  simp only [zeroA] at hr
  cases hd:Ty.deepZ (.pair a b) with
  | false=>rw [hd] at hr;exact ⟨_,CR.of_imm _ (zrel w N _ _ hz),hr⟩
  | true =>
   rw [hd] at hr
   have hz0:=hz
   simp only [zChk,Bool.and_eq_true] at hz
   obtain ⟨x,hx,hr⟩:=zeroA_elim a _ _ hz.1 hr
   obtain ⟨y,hy,hr⟩:=zeroA_elim b _ _ hz.2 hr
   have e:cs=cs.take a.size ++ cs.drop a.size:=(List.take_append_drop _ _).symm
   cases y with
   | agg t' vs =>
    obtain ⟨rfl,_,hv⟩:=hy.agg_inv
    exact ⟨_,CR.agg (t:=.pair a t') (vs:=x :: vs) ⟨_,_,e,hx,hv⟩,hr⟩
   | imm t' y =>
    obtain ⟨rfl,hy'⟩:=hy.imm_inv
    obtain ⟨vs,hv,hr⟩:=partsA_elim t' y _ _ hr hy'
    exact ⟨_,CR.agg (t:=.pair a t') (vs:=x :: vs) ⟨_,_,e,hx,hv⟩,hr⟩
   | _=>exact fail_elim hr
 | .list t,cs,k,hz,hr=>by
  refine ⟨.nilS,?_,hr⟩
  simp only [zChk] at hz
  split at hz
  ·exact (⟨⟨_,rfl⟩,_,rfl,rfl⟩:(∃ v,Ty.list t=.list v)∧∃ c,[Value.slice none 0 0]=[c]∧LR β hp w N .nilS c)
  ·cases hz
 | .int j,cs,k,hz,hr=>⟨_,CR.of_imm _ (zrel w N _ _ hz),hr⟩
 | .bool,cs,k,hz,hr=>⟨_,CR.of_imm _ (zrel w N _ _ hz),hr⟩
 | .str,cs,k,hz,hr=>⟨_,CR.of_imm _ (zrel w N _ _ hz),hr⟩
 | .unit,cs,k,hz,hr=>⟨_,CR.of_imm _ (zrel w N _ _ hz),hr⟩
 | .opq,cs,k,hz,hr=>⟨_,CR.of_imm _ (zrel w N _ _ hz),hr⟩
 | .arr n t,cs,k,hz,hr=>⟨_,CR.of_imm _ (zrel w N _ _ hz),hr⟩
end Ev
end Go.Proofs.YtlfcdmibknmjeaaGreatDoor
namespace Go.Proofs.YtlfcdmibknmjeaaGreatDoor
namespace Ev
open Go Go.RowKit
variable {P:Program} {G:List GV} {α:Type} {E:Entry} {fr hp:List SV} {tm:Array Value} {w:World} {β:Nat→BI} {N:Reg} {r:α × List SV × List SV}
theorem foldl_over (off:Nat):∀ (l:List Value) (k:Nat) (cs:Array Value),off + k + l.length ≤ cs.size →
 ((l.zipIdx k).foldl (fun (cs:Array Value) (p:Value × Nat)=>cs.setIfInBounds (off + p.2) p.1) cs).toList=over cs.toList (off + k) l
 | [],k,cs,h=>by simp [over]
 | v :: l,k,cs,h=>by
  simp only [List.length_cons] at h
  simp only [List.zipIdx_cons,List.foldl_cons]
  rw [foldl_over off l (k + 1) _ (by simp;omega)]
  simp only [Array.toList_setIfInBounds,over,List.length_cons]
  have h1:off + k < cs.toList.length:=by simp;omega
  rw [show off + (k + 1)=off + k + 1 by omega,List.take_succ_eq_append_getElem (by simpa using h1),List.getElem_set_self,List.take_set_of_le (by omega)]
  rw [List.drop_set_of_lt (by omega)]
  simp
  congr 1
  omega
theorem flat_take_len (css:List (List Value)) (i:Nat) (hi:i < css.length):(css.take i).flatten.length + css[i].length ≤ css.flatten.length:=by
 have h:css.flatten=(css.take i).flatten ++ (css.drop i).flatten:=by rw [← List.flatten_append,List.take_append_drop]
 rw [h,List.length_append,List.drop_eq_getElem_cons hi,List.flatten_cons,List.length_append]
 omega
theorem len_flat_set:∀ (css:List (List Value)) (i:Nat) (new:List Value),(∀ h:i < css.length,new.length=css[i].length)→(css.set i new).flatten.length=css.flatten.length
 | [],_,_,_=>rfl
 | c :: css,0,new,h=>by
  have:=h (by simp)
  simp only [List.set_cons_zero,List.flatten_cons,List.length_append]
  simp at this;omega
 | c :: css,i + 1,new,h=>by
  simp only [List.set_cons_succ,List.flatten_cons,List.length_append]
  rw [len_flat_set css i new (fun hi=>h (Nat.succ_lt_succ hi))]
theorem over_flat:∀ (css:List (List Value)) (i:Nat) (hi:i < css.length) (new:List Value),new.length=css[i].length→over css.flatten ((css.take i).flatten).length new=(css.set i new).flatten
 | [],_,hi,_,_=>by simp at hi
 | c :: css,0,hi,new,h=>by
  simp only [List.take_zero,List.flatten_nil,List.length_nil,List.flatten_cons,List.set_cons_zero]
  simp at h
  rw [over_left _ _ (by omega),over_all _ _ (by omega)]
 | c :: css,i + 1,hi,new,h=>by
  simp only [List.take_succ_cons,List.flatten_cons,List.length_append,List.set_cons_succ]
  rw [over_right,over_flat css i (by simpa using hi) new (by simpa using h)]
def fillL (css:List (List Value)):List (Nat × Value)→List (List Value)
 | []=>css
 | p :: ps=>fillL (css.set p.1 p.2.cells.toList) ps
theorem fill_run (place:Nat→Option (Nat × Nat)):∀ (parts:List (Nat × Value)) (css:List (List Value)),(∀ i (hi:i < css.length),place i=some (((css.take i).flatten).length,css[i].length)) →
 (∀ p ∈ parts,∃ h:p.1 < css.length,p.2.cells.size=css[p.1].length)→Instr.fill place css.flatten.toArray parts=some (fillL css parts).flatten.toArray
 | [],css,_,_=>rfl
 | p :: ps,css,hp,hq=>by
  obtain ⟨h1,h2⟩:=hq p (by simp)
  obtain ⟨i,v⟩:=p
  simp only at h1 h2
  have hle:=flat_take_len css i h1
  simp only [Instr.fill,hp i h1]
  have hno:¬(v.cells.size ≠ css[i].length ∨ ((css.take i).flatten).length + v.cells.size > css.flatten.toArray.size):=by
   rintro (h | h)
   ·exact h h2
   ·rw [h2] at h;simp only [List.size_toArray] at h;omega
  rw [if_neg (by rw [Bool.or_eq_true,decide_eq_true_eq,decide_eq_true_eq];exact hno)]
  have hf:=foldl_over ((css.take i).flatten).length v.cells.toList 0 css.flatten.toArray (by simp only [Array.length_toList,h2,List.size_toArray];omega)
  have e:v.cells.zipIdx.foldl (fun (cs:Array Value) (x:Value × Nat)=>cs.setIfInBounds (((css.take i).flatten).length + x.2) x.1) css.flatten.toArray=(css.set i v.cells.toList).flatten.toArray:=by
   apply Array.ext'
   rw [← Array.foldl_toList,Array.toList_zipIdx,hf]
   simp only [Nat.add_zero]
   exact over_flat css i h1 _ (by simpa using h2)
  have e':v.cells.zipIdx.foldl (fun (cs:Array Value) x=>match x with | (c,j)=>cs.setIfInBounds (((css.take i).flatten).length + j) c) css.flatten.toArray=(css.set i v.cells.toList).flatten.toArray:=e
  rw [e']
  simp only [fillL]
  refine fill_run place ps _ (fun j hj=>?_) (fun q hq'=>?_)
  ·simp only [List.length_set] at hj
   rw [hp j hj]
   congr 2
   ·rcases Nat.lt_or_ge i j with hij | hij
    ·rw [List.take_set,len_flat_set _ _ _ (fun h=>by simpa using h2)]
    ·rw [List.take_set_of_le hij]
   ·rw [List.getElem_set];split
    ·rename_i h;subst h;simpa using h2.symm
    ·rfl
  ·obtain ⟨a,b⟩:=hq q (by simp [hq'])
   refine ⟨by simpa using a,?_⟩
   rw [List.getElem_set];split
   ·rename_i h;rw [b];subst h;simpa using h2.symm
   ·exact b
theorem len_fillL:∀ (ps:List (Nat × Value)) (css:List (List Value)),(fillL css ps).length=css.length
 | [],_=>rfl
 | p :: ps,css=>by simp only [fillL];rw [len_fillL ps];simp
def partsV (a:Act) (ps:List (Nat × Operand)):List (Nat × Value):=ps.map fun p=>(p.1,a.eval p.2)
theorem fillL_at (a:Act):∀ (ps:List (Nat × Operand)) (css:List (List Value)) (i:Nat) (hi:i < css.length),freshI ps=true →
 (fillL css (partsV a ps))[i]'(by rw [len_fillL];exact hi)=match lookI ps i with | some o=>(a.eval o).cells.toList | none=>css[i]
 | [],css,i,hi,_=>rfl
 | p :: ps,css,i,hi,hf=>by
  obtain ⟨j,o⟩:=p
  simp only [freshI,Bool.and_eq_true] at hf
  have ih:=fillL_at a ps (css.set j (a.eval o).cells.toList) i (by simpa using hi) hf.2
  simp only [partsV,List.map_cons,fillL] at ih ⊢
  rw [ih]
  simp only [lookI]
  by_cases e:j=i
  ·subst e
   have h1:lookI ps j=none:=by
    have:=hf.1
    cases h:lookI ps j with
    | none=>rfl
    | some x=>rw [h] at this;cases this
   rw [h1,Nat.beq_refl]
   simp
  ·have:Nat.beq j i=false:=by
    cases h:Nat.beq j i with
    | false=>rfl
    | true=>exact (e (Nat.eq_of_beq_eq_true h)).elim
   rw [this]
   simp only [cond_false]
   split
   ·rfl
   ·rw [List.getElem_set_ne e]
def partC (a:Act) (ps:List (Nat × Operand)) (i:Nat) (z:List Value):List Value:=match lookI ps i with | some o=>(a.eval o).cells.toList | none=>z
def zcss:Ty→List Value→List (List Value)
 | .pair a b,cs=>cs.take a.size :: zcss b (cs.drop a.size)
 | _,_=>[]
theorem zcss_flat:∀ (t:Ty) (cs:List Value) (fs:List Field) (o:Nat),Flds P t fs o→zChk t cs=true→(zcss t cs).flatten=cs∧(zcss t cs).length=fs.length
 | .unit,cs,fs,o,hf,hz=>by
  have:fs=[]:=hf
  subst this
  simp only [zChk,List.isEmpty_iff] at hz
  subst hz
  exact ⟨rfl,rfl⟩
 | .pair a b,cs,fs,o,hf,hz=>by
  obtain ⟨f,gs,rfl,_,_,_,hg⟩:=hf
  simp only [zChk,Bool.and_eq_true] at hz
  obtain ⟨h1,h2⟩:=zcss_flat b _ gs _ hg hz.2
  simp only [zcss,List.flatten_cons,h1,List.take_append_drop,List.length_cons,h2,and_self]
 | .int _,_,_,_,hf,_=>hf.elim
 | .bool,_,_,_,hf,_=>hf.elim
 | .str,_,_,_,hf,_=>hf.elim
 | .opq,_,_,_,hf,_=>hf.elim
 | .list _,_,_,_,hf,_=>hf.elim
 | .arr _ _,_,_,_,hf,_=>hf.elim
theorem zcss_place:∀ (t:Ty) (cs:List Value) (fs:List Field) (o:Nat),Flds P t fs o→zChk t cs=true→∀ i (hi:i < (zcss t cs).length),∃ f u,fs[i]?=some f∧f.offset=o + (((zcss t cs).take i).flatten).length ∧
 tyChk P u none f.type=true∧((zcss t cs)[i]).length=u.size∧zChk u ((zcss t cs)[i])=true
 | .pair a b,cs,fs,o,hf,hz,0,hi=>by
  obtain ⟨f,gs,rfl,h1,h2,h3,hg⟩:=hf
  simp only [zChk,Bool.and_eq_true] at hz
  exact ⟨f,a,rfl,by simpa using h1,h3,rel_len a _ _ (zrel default (fun _ _=>False) a _ hz.1),hz.1⟩
 | .pair a b,cs,fs,o,hf,hz,i + 1,hi=>by
  obtain ⟨f,gs,rfl,h1,h2,h3,hg⟩:=hf
  simp only [zChk,Bool.and_eq_true] at hz
  obtain ⟨g,u,e1,e2,e3,e4,e5⟩:=zcss_place b _ gs _ hg hz.2 i (by simpa [zcss] using hi)
  have hl:=rel_len a _ _ (zrel default (fun _ _=>False) a _ hz.1)
  refine ⟨g,u,by simpa using e1,?_,e3,e4,e5⟩
  rw [e2]
  simp only [zcss,List.take_succ_cons,List.flatten_cons,List.length_append,hl]
  omega
 | .unit,_,_,_,_,_,_,hi=>by simp [zcss] at hi
 | .int _,_,_,_,hf,_,_,_=>hf.elim
 | .bool,_,_,_,hf,_,_,_=>hf.elim
 | .str,_,_,_,hf,_,_,_=>hf.elim
 | .opq,_,_,_,hf,_,_,_=>hf.elim
 | .list _,_,_,_,hf,_,_,_=>hf.elim
 | .arr _ _,_,_,_,hf,_,_,_=>hf.elim
theorem fieldsA_elim {a:Act} (h:Sim G E fr hp a.tmps w β N):∀ (t:Ty) (i:Nat) (ps:List (Nat × Operand)) (cs:List Value) (k:List SV→Acc P G α),zChk t cs=true→run (fieldsA t i ps k) fr hp=some r →
 ∃ vs,CR β hp w N t true .none vs ((zcss t cs).mapIdx fun j z=>partC a ps (i + j) z).flatten∧(∀ j (hj:j < (zcss t cs).length),(partC a ps (i + j) (zcss t cs)[j]).length=((zcss t cs)[j]).length)∧run (k vs) fr hp=some r
 | .unit,i,ps,cs,k,hz,hr=>⟨[],⟨rfl,rfl⟩,fun j hj=>by simp [zcss] at hj,hr⟩
 | .pair x y,i,ps,cs,k,hz,hr=>by
  simp only [zChk,Bool.and_eq_true] at hz
  have hzl:=rel_len x _ _ (zrel default (fun _ _=>False) x _ hz.1)
  have step:∀ v (c:List Value),c=partC a ps i (cs.take x.size)→CR β hp w N x false v [] c→run (fieldsA y (i + 1) ps fun vs=>k (v :: vs)) fr hp=some r →
   ∃ vs,CR β hp w N (.pair x y) true .none vs ((zcss (.pair x y) cs).mapIdx fun j z=>partC a ps (i + j) z).flatten ∧
    (∀ j (hj:j < (zcss (.pair x y) cs).length),(partC a ps (i + j) (zcss (.pair x y) cs)[j]).length=((zcss (.pair x y) cs)[j]).length)∧run (k vs) fr hp=some r:=by
   intro v c hc hv hr
   obtain ⟨vs,h1,h2,hr⟩:=fieldsA_elim h y (i + 1) ps _ _ hz.2 hr
   refine ⟨v :: vs,⟨c,_,?_,hv,h1⟩,fun j hj=>?_,hr⟩
   ·simp only [zcss,List.mapIdx_cons,List.flatten_cons,Nat.add_zero,hc]
    congr 3
    funext j z
    rw [show i + (j + 1)=i + 1 + j by omega]
   ·cases j with
    | zero=>simp only [zcss,List.getElem_cons_zero,Nat.add_zero];rw [← hc,hv.len,hzl]
    | succ j =>
     have:=h2 j (by simpa [zcss] using hj)
     simp only [zcss,List.getElem_cons_succ]
     rw [show i + (j + 1)=i + 1 + j by omega]
     exact this
  simp only [fieldsA] at hr
  split at hr
  ·rename_i o ho
   obtain ⟨v,hv,hr⟩:=rdO_elim h hr
   obtain ⟨h1,_,hr⟩:=fitA_elim hr hv
   exact step v _ (by unfold partC;rw [ho]) h1 hr
  ·rename_i ho
   obtain ⟨v,hv,hr⟩:=zeroA_elim x _ _ hz.1 hr
   exact step v _ (by unfold partC;rw [ho]) hv hr
 | .int _,_,_,_,_,_,hr=>fail_elim hr
 | .bool,_,_,_,_,_,hr=>fail_elim hr
 | .str,_,_,_,_,_,hr=>fail_elim hr
 | .opq,_,_,_,_,_,hr=>fail_elim hr
 | .list _,_,_,_,_,_,hr=>fail_elim hr
 | .arr _ _,_,_,_,_,_,hr=>fail_elim hr
theorem joinA_elim:∀ (t:Ty) (vs:List SV) (cs:List Value) (k:t.denote→Acc P G α) (no:Acc P G α),run (joinA t vs k no) fr hp=some r→CR β hp w N t true .none vs cs→(∃ x,rel w N t x cs∧run (k x) fr hp=some r) ∨ run no fr hp=some r
 | .pair a b,v :: vs,cs,k,no,hr,hc=>by
  obtain ⟨c1,c2,rfl,h1,h2⟩:=hc
  cases v with
  | imm t' x =>
   obtain ⟨e,hr1⟩:=castA_elim (show run (castA t' a x fun x=>joinA b vs (fun y=>k (x,y)) no) fr hp=some r from hr)
   subst e
   obtain ⟨_,hx⟩:=h1.imm_inv
   rcases joinA_elim b vs c2 _ no hr1 h2 with ⟨y,hy,hr⟩ | hr
   ·exact .inl ⟨(x,y),⟨c1,c2,rfl,hx,hy⟩,hr⟩
   ·exact .inr hr
  | _=>exact .inr hr
 | .unit,[],cs,k,no,hr,hc=>.inl ⟨(),hc.2,hr⟩
 | .pair a b,[],_,_,_,hr,_=>.inr hr
 | .unit,_ :: _,_,_,_,hr,_=>.inr hr
 | .int _,vs,_,_,_,hr,_=>.inr (by cases vs <;> exact hr)
 | .bool,vs,_,_,_,hr,_=>.inr (by cases vs <;> exact hr)
 | .str,vs,_,_,_,hr,_=>.inr (by cases vs <;> exact hr)
 | .opq,vs,_,_,_,hr,_=>.inr (by cases vs <;> exact hr)
 | .list _,vs,_,_,_,hr,_=>.inr (by cases vs <;> exact hr)
 | .arr _ _,vs,_,_,_,hr,_=>.inr (by cases vs <;> exact hr)
theorem elemsA_elim {a:Act} {t:Ty} {z:Nat→List Value} (hz:∀ j,zChk t (z j)=true) (n:Nat):∀ (i:Nat) (ps:List (Nat × Operand)) (k:List t.denote→Acc P G α) (hp:List SV) (N:Reg),Sim G E fr hp a.tmps w β N→run (elemsA t n i ps k) fr hp=some r →
 ∃ hp' N' xs,Gh G E fr hp a.tmps w β N hp' N'∧xs.length=n∧(∀ j (hj:j < xs.length),rel w N' t xs[j] (partC a ps (i + j) (z (i + j))))∧run (k xs) fr hp'=some r:=by
 induction n with
 | zero=>exact fun i ps k hp N h hr=>⟨hp,N,[],Gh.refl h,rfl,fun j hj=>(by cases hj),hr⟩
 | succ n ih =>
  intro i ps k hp N h hr
  have step:∀ (hp1:List SV) (N1:Reg) (x:t.denote),Gh G E fr hp a.tmps w β N hp1 N1→rel w N1 t x (partC a ps i (z i))→run (elemsA t n (i + 1) ps fun xs=>k (x :: xs)) fr hp1=some r →
   ∃ hp' N' xs,Gh G E fr hp a.tmps w β N hp' N'∧xs.length=n + 1∧(∀ j (hj:j < xs.length),rel w N' t xs[j] (partC a ps (i + j) (z (i + j))))∧run (k xs) fr hp'=some r:=by
   intro hp1 N1 x g hx hr
   obtain ⟨hp',N',xs,g',hl,h2,hr⟩:=ih (i + 1) ps _ hp1 N1 g.sim hr
   refine ⟨hp',N',x :: xs,g.trans g',by simp [hl],fun j hj=>?_,hr⟩
   cases j with
   | zero=>exact rel_ext g'.ext _ _ _ hx
   | succ j =>
    have:=h2 j (by simpa using hj)
    simp only [List.getElem_cons_succ]
    rw [show i + (j + 1)=i + 1 + j by omega]
    exact this
  simp only [elemsA] at hr
  split at hr
  ·rename_i o ho
   obtain ⟨v,hv,hr⟩:=rdO_elim h hr
   obtain ⟨hp1,N1,x,g,⟨cs,hx,e⟩,hr⟩:=immA_elim h hr hv
   refine step hp1 N1 x g ?_ hr
   unfold partC
   rw [ho]
   simp only [e]
   rw [cells_valOf (rel_len _ _ _ hx) (rel_one _ _ _ hx)]
   exact hx
  ·rename_i ho
   exact step hp N t.zero (Gh.refl h) (by unfold partC;rw [ho];exact zrel w N t _ (hz i)) hr
end Ev
end Go.Proofs.YtlfcdmibknmjeaaGreatDoor
namespace Go.Proofs.YtlfcdmibknmjeaaGreatDoor
namespace Ev
open Go Go.RowKit
variable {P:Program} {G:List GV} {E:Entry} {fr hp:List SV} {w:World} {β:Nat→BI} {N:Reg} {r:Unit × List SV × List SV} {a:Act} {o:Oper}
def Does (P:Program) (o:Oper) (a:Act) (w:World) (R:Act→World→Prop):Prop:=∀ (next:Act→World→Prop) (Q:Exit→Act→World→Prop),(∀ a' w',R a' w'→next a' w')→o.wp P a w next Q
def After (G:List GV) (E:Entry) (a:Act) (r:Unit × List SV × List SV) (a':Act) (w':World):Prop:=a'.defers=a.defers∧∃ β' N',Sim G E r.2.1 r.2.2 a'.tmps w' β' N'
theorem put_defers (a:Act) (d:Option Tmp) (v:Value):(a.put d v).defers=a.defers:=by cases d <;> rfl
def setFr (fr:List SV) (d:Option Tmp) (v:SV):List SV:=match d with | none=>fr | some d=>put fr d v
theorem setD_run {d:Option Tmp} {v:SV} (hr:run (setD d v (.pure ()):Acc P G Unit) fr hp=some r):r.2.1=setFr fr d v∧r.2.2=hp:=by
 cases d with
 | none=>simp only [setD,run,Option.some.injEq] at hr;subst hr;exact ⟨rfl,rfl⟩
 | some d=>simp only [setD,run,Bool.false_eq_true,if_false,Option.some.injEq] at hr;subst hr;exact ⟨rfl,rfl⟩
theorem Sim.dst (h:Sim G E fr hp a.tmps w β N) (d:Option Tmp) {sv:SV} {v:Value} (hv:VR β hp w N sv v):Sim G E (setFr fr d sv) hp (a.put d v).tmps w β N:=by
 cases d with
 | none=>exact h
 | some d=>exact h.putSlot d hv
theorem does_val {v:SV} {u:Value} {w':World} (hrun:(execOp a.eval o).run P w=.ok (.value u) w') (h:Sim G E fr hp a.tmps w' β N) (hv:VR β hp w' N v u)
 (hr:run (setD o.dst v (.pure ()):Acc P G Unit) fr hp=some r):Does P o a w (After G E a r):=by
 intro next Q hn
 unfold Oper.wp
 rw [hrun]
 refine hn _ _ ⟨put_defers _ _ _,β,N,?_⟩
 obtain ⟨e1,e2⟩:=setD_run hr
 rw [e1,e2]
 exact h.dst _ hv
theorem does_skip {w':World} (hrun:(execOp a.eval o).run P w=.ok .skip w') (h:Sim G E fr hp a.tmps w' β N)
 (hr:run (setD o.dst (.tup []) (.pure ()):Acc P G Unit) fr hp=some r):Does P o a w (After G E a r):=by
 intro next Q hn
 unfold Oper.wp
 rw [hrun]
 refine hn _ _ ⟨put_defers _ _ _,β,N,?_⟩
 obtain ⟨e1,e2⟩:=setD_run hr
 rw [e1,e2]
 exact h.dst _ (sv:=.tup []) ⟨[],rfl,rfl,fun i hi=>by cases hi⟩
theorem vimm {t:Ty} {x:t.denote} {u:Value} (ht:t.isAgg=false) (h:rel w N t x [u]):VR β hp w N (.imm t x) u:=⟨[u],h,by unfold valOf;rw [ht];rfl⟩
theorem imm1 {t:Ty} {x:t.denote} {u:Value} (ht:t.isAgg=false) (h:VR β hp w N (.imm t x) u):rel w N t x [u]:=by
 obtain ⟨cs,h1,rfl⟩:=(h:IsImm w N t x u)
 obtain ⟨c,rfl⟩:=rel_single ht h1
 unfold valOf
 rw [ht]
 exact h1
theorem vint {k:IntKind} {n:Int} {u:Value} (h:VR β hp w N (.imm (.int k) n) u):u=.int k n:=by
 have:=imm1 (t:=.int k) rfl h
 cases this;rfl
theorem vbool {b:Bool} {u:Value} (h:VR β hp w N (.imm .bool b) u):u=.bool b:=by
 have:=imm1 (t:=.bool) rfl h
 cases this;rfl
theorem vstr {s:ByteArray} {u:Value} (h:VR β hp w N (.imm .str s) u):u=.string s:=by
 have:=imm1 (t:=.str) rfl h
 cases this;rfl
theorem ivint (k:IntKind) (n:Int):VR β hp w N (.imm (.int k) n) (.int k n):=vimm (t:=.int k) rfl rfl
theorem ivbool (b:Bool):VR β hp w N (.imm .bool b) (.bool b):=vimm (t:=.bool) rfl rfl
theorem ivstr (s:ByteArray):VR β hp w N (.imm .str s) (.string s):=vimm (t:=.str) rfl rfl
theorem op_move {x:Operand} (ho:o.op=.move x ∨ o.op=.assign x) (h:Sim G E fr hp a.tmps w β N) (hr:run (rdO x fun v=>setD o.dst v (.pure ()):Acc P G Unit) fr hp=some r):Does P o a w (After G E a r):=by
 obtain ⟨v,hv,hr⟩:=rdO_elim h hr
 refine does_val (u:=a.eval x) ?_ h hv hr
 unfold execOp
 rcases ho with ho | ho <;> rw [ho] <;> rfl
theorem op_pick {i:Nat} {x y:Operand} (ho:o.op=.pick (.tmp i) x y) (h:Sim G E fr hp a.tmps w β N)
 (hr:run (.bs i (rdO x fun v=>setD o.dst v (.pure ())) (rdO y fun v=>setD o.dst v (.pure ())) .fail:Acc P G Unit) fr hp=some r):Does P o a w (After G E a r):=by
 simp only [run] at hr
 have hs:=h.slot i
 split at hr
 ·rename_i b hb
  rw [hb] at hs
  have hs:a.tmps.getD i undef=.bool b:=vbool hs
  cases b with
  | true =>
   obtain ⟨v,hv,hr⟩:=rdO_elim h hr
   exact does_val (u:=a.eval x) (by unfold execOp;rw [ho];simp [Act.eval,hs,asBool]) h hv hr
  | false =>
   obtain ⟨v,hv,hr⟩:=rdO_elim h hr
   exact does_val (u:=a.eval y) (by unfold execOp;rw [ho];simp [Act.eval,hs,asBool]) h hv hr
 ·cases hr
 ·cases hr
theorem br_fail {c:Bool} {m:Acc P G Unit} (hr:run (.br c .fail m) fr hp=some r):c=false∧run m fr hp=some r:=by
 cases c
 ·exact ⟨rfl,by simpa [run] using hr⟩
 ·simp [run] at hr
theorem br_ok {c:Bool} {m:Acc P G Unit} (hr:run (.br c m .fail) fr hp=some r):c=true∧run m fr hp=some r:=by
 cases c
 ·simp [run] at hr
 ·exact ⟨rfl,by simpa [run] using hr⟩
theorem eq_int {op:BinOp} {j:IntKind} {x y:Int} {k:SV→Acc P G Unit} (t:TypeId) (hr:run (intBin op j x y k) fr hp=some r) :
 ∃ v u,VR β hp w N v u∧(binOp op t (.int j x) (.int j y)).run P w=.ok u w∧run (k v) fr hp=some r:=by
 cases op <;> simp only [intBin] at hr <;> first
  | exact fail_elim hr
  |(refine ⟨_,_,ivint _ _,?_,hr⟩;simp [binOp,Op.intArith,Op.intBits,band,bor,bxor,bnot];done)
  |(refine ⟨_,_,ivbool _,?_,hr⟩;simp [binOp,Op.intCmp];done)
  |(obtain ⟨h0,hr⟩:=br_fail hr
    have h0:¬ y=0:=by simpa using h0
    refine ⟨_,_,ivint _ _,?_,hr⟩
    simp [binOp,Op.intDiv,h0])
theorem eq_str {op:BinOp} {x y:ByteArray} {k:SV→Acc P G Unit} (t:TypeId) (hr:run (strBin op x y k) fr hp=some r) :
 ∃ v u,VR β hp w N v u∧(binOp op t (.string x) (.string y)).run P w=.ok u w∧run (k v) fr hp=some r:=by
 cases op <;> simp only [strBin] at hr <;> first
  | exact fail_elim hr
  |(refine ⟨_,_,ivbool _,?_,hr⟩;simp [binOp,Op.stringOp,strEq,strLt];done)
  |(obtain ⟨h0,hr⟩:=br_ok hr
    have h0:x.size + y.size ≤ roomN:=by simpa using h0
    unfold roomN at h0
    refine ⟨_,_,ivstr _,?_,hr⟩
    simp [binOp,Op.stringOp]
    omega)
end Ev
end Go.Proofs.YtlfcdmibknmjeaaGreatDoor
namespace Go.Proofs.YtlfcdmibknmjeaaGreatDoor
namespace Ev
open Go Go.RowKit
variable {P:Program} {G:List GV} {E:Entry} {fr hp:List SV} {w:World} {β:Nat→BI} {N:Reg} {r:Unit × List SV × List SV} {a:Act} {o:Oper}
theorem eqf_nil' {d:Nat} {xs ys:Array Value} (w:World):(Op.eqFields d xs ys []).run P w=.ok true w:=by simp [Op.eqFields]
theorem eqf_cons' {d : Nat} {xs ys : Array Value} {f : Field} {fs : List Field} {x y : Value} {b c : Bool} (w : World) (hn : (f.name == "_") = false) (ha : (part f.type xs f.offset).run P w = .ok x w) (hb : (part f.type ys f.offset).run P w = .ok y w)
 (he:(Op.equalIn d f.type x y).run P w=.ok b w) (hr:(Op.eqFields d xs ys fs).run P w=.ok c w):(Op.eqFields d xs ys (f :: fs)).run P w=.ok (b && c) w:=by
 have hn' : f.name ≠ "_" := by simpa using hn
 rw [Op.eqFields]
 simp only [if_pos hn',Sem.run_bind,ha,hb,he,Result.andThen_ok]
 cases b
 ·simp
 ·simpa using hr
theorem eq_items (w':World) {t:Ty} {d:Nat} {e:TypeId} (he:tyChk P t none e=true) (IH:∀ (cs cs':List Value) (x y:t.denote),rel w N t x cs→rel w N t y cs'→(Op.equalIn d e (valOf t cs) (valOf t cs')).run P w'=.ok (eqv t x y) w') :
 ∀ (c1 c2:List (List Value)) (xs ys:List t.denote) (pre pre':List Value) (k:Nat),pre.length=k * t.size→pre'.length=k * t.size→c1.length=xs.length→c2.length=ys.length→xs.length=ys.length →
  (∀ i (h:i < xs.length) (h':i < c1.length),rel w N t xs[i] c1[i])→(∀ i (h:i < ys.length) (h':i < c2.length),rel w N t ys[i] c2[i]) →
  (Op.eqItems d e t.size (pre ++ c1.flatten).toArray (pre' ++ c2.flatten).toArray (List.range' k xs.length)).run P w'=.ok (allEq (eqv t) xs ys) w'
 | [],[],[],[],_,_,_,_,_,_,_,_,_,_=>by simp [Op.eqItems,allEq]
 | c :: c1,c' :: c2,x :: xs,y :: ys,pre,pre',k,h1,h2,h3,h4,h5,h6,h7=>by
  have rx:=h6 0 (by simp) (by simp)
  have ry:=h7 0 (by simp) (by simp)
  simp only [List.getElem_cons_zero] at rx ry
  have lc:=rel_len t _ _ rx
  have ld:=rel_len t _ _ ry
  have pa:=run_part he w' pre c c1.flatten lc
  have pb:=run_part he w' pre' c' c2.flatten ld
  rw [h1] at pa
  rw [h2] at pb
  have ih:=eq_items w' he IH c1 c2 xs ys (pre ++ c) (pre' ++ c') (k + 1) (by rw [List.length_append,h1,lc,Nat.succ_mul]) (by rw [List.length_append,h2,ld,Nat.succ_mul]) (by simpa using h3) (by simpa using h4) (by simpa using h5)
   (fun i hi hi'=>h6 (i + 1) (by simpa using hi) (by simpa using hi')) (fun i hi hi'=>h7 (i + 1) (by simpa using hi) (by simpa using hi'))
  simp only [List.length_cons,List.range'_succ,List.flatten_cons,Op.eqItems,allEq]
  rw [← List.append_assoc,← List.append_assoc]
  simp only [Sem.run_bind,pa,pb,IH _ _ _ _ rx ry,Result.andThen_ok]
  cases eqv t x y
  ·simp
  ·simpa using ih
 | [],_ :: _,[],[],_,_,_,_,_,_,h,_,_,_=>by simp at h
 | [],_,[],_ :: _,_,_,_,_,_,_,_,h,_,_=>by simp at h
 | [],_,_ :: _,_,_,_,_,_,_,h,_,_,_,_=>by simp at h
 | _ :: _,_,[],_,_,_,_,_,_,h,_,_,_,_=>by simp at h
 | _ :: _,[],_ :: _,_ :: _,_,_,_,_,_,_,h,_,_,_=>by simp at h
 | _ :: _,_,_ :: _,[],_,_,_,_,_,_,_,h,_,_=>by simp at h
theorem cellsOf_eq {t:Ty} {e:TypeId} (he:tyChk P t none e=true):∃ i,P.info? e=some i∧P.cellsOf e=t.size:=by
 obtain ⟨i,z,hi⟩:=tyChk_info he
 exact ⟨i,hi.info,by simp [Program.cellsOf,hi.info,hi.size]⟩
theorem eq_run (w':World):∀ (t:Ty) (d:Nat),t.high ≤ d →
 (∀ (id:TypeId) (cs cs':List Value) (x y:t.denote),tyChk P t none id=true→eqChk P t none id=true→rel w N t x cs→rel w N t y cs'→(Op.equalIn (d + 1) id (valOf t cs) (valOf t cs')).run P w'=.ok (eqv t x y) w') ∧
 (∀ (fs:List Field) (pre pre' cs cs':List Value) (x y:t.denote),Flds P t fs pre.length→pre.length=pre'.length→eqChk P t (some fs) 0=true→rel w N t x cs→rel w N t y cs' →
  (Op.eqFields d (pre ++ cs).toArray (pre' ++ cs').toArray fs).run P w'=.ok (eqv t x y) w')
 | .int k,d,hd=>⟨fun id cs cs' x y h _ hx hy=>by cases hx;cases hy;exact run_equalIn_int w' d id k k x y (tyChk_int h),fun _ _ _ _ _ _ _ h=>h.elim⟩
 | .bool,d,hd=>⟨fun id cs cs' x y h _ hx hy=>by cases hx;cases hy;exact run_equalIn_bool' w' d id x y (tyChk_bool h),fun _ _ _ _ _ _ _ h=>h.elim⟩
 | .str,d,hd=>⟨fun id cs cs' x y h _ hx hy=>by cases hx;cases hy;exact run_equalIn_string w' d id x y (tyChk_str h),fun _ _ _ _ _ _ _ h=>h.elim⟩
 | .unit,d,hd=>⟨fun id cs cs' x y _ h=>by simp [eqChk] at h,fun fs pre pre' cs cs' x y _ _ h _ _=>by
  simp only [eqChk,List.isEmpty_iff] at h;subst h;exact eqf_nil' w'⟩
 | .opq,d,hd=>⟨fun id cs cs' x y _ h=>by simp [eqChk] at h,fun _ _ _ _ _ _ _ h=>h.elim⟩
 | .list t,d,hd=>⟨fun id cs cs' x y _ h=>by simp [eqChk] at h,fun _ _ _ _ _ _ _ h=>h.elim⟩
 | .arr n t,d,hd=>⟨fun id cs cs' x y ht h hx hy=>by
  simp only [Ty.high] at hd
  obtain ⟨d,rfl⟩:∃ m,d=m + 1:=⟨d - 1,by omega⟩
  obtain ⟨e,hu,he,_⟩:=tyChk_arr ht
  simp only [eqChk] at h
  obtain ⟨de,hde,hf⟩:=undChk_some h
  rw [hu] at hde
  cases hde
  simp only [Bool.and_eq_true,decide_eq_true_eq] at hf
  obtain ⟨i,hi,hc⟩:=cellsOf_eq he
  obtain ⟨l1,c1,rfl,l2,h1⟩:=hx
  obtain ⟨l3,c2,rfl,l4,h2⟩:=hy
  show (Op.equalIn (d + 1 + 1) id (.agg _) (.agg _)).run P w'=_
  rw [run_equalIn_array w' (d + 1) _ _ hu hi,hc,List.range_eq_range',← l1]
  have:=eq_items w' he (fun cs cs' x y hx hy=>(eq_run w' t d (by omega)).1 e cs cs' x y he hf.2 hx hy) c1 c2 x y [] [] 0 (by simp) (by simp) (by omega) (by omega) (by omega) h1 h2
  simp only [List.nil_append] at this
  exact this,fun _ _ _ _ _ _ _ h=>h.elim⟩
 | .pair a b,d,hd=>by
  simp only [Ty.high] at hd
  have flds:∀ (d:Nat),a.high + 1 ≤ d→b.high ≤ d→∀ (fs:List Field) (pre pre' cs cs':List Value) (x y:(Ty.pair a b).denote),Flds P (.pair a b) fs pre.length→pre.length=pre'.length →
   eqChk P (.pair a b) (some fs) 0=true→rel w N (.pair a b) x cs→rel w N (.pair a b) y cs' →
   (Op.eqFields d (pre ++ cs).toArray (pre' ++ cs').toArray fs).run P w'=.ok (eqv (.pair a b) x y) w':=by
   intro d h1 h2 fs pre pre' cs cs' x y hf hl he hx hy
   obtain ⟨f,gs,rfl,f1,f2,f3,f4⟩:=hf
   simp only [eqChk,Bool.and_eq_true,Bool.not_eq_true'] at he
   obtain ⟨⟨e1,e2⟩,e3⟩:=he
   obtain ⟨c1,c2,rfl,x1,x2⟩:=hx
   obtain ⟨d1,d2,rfl,y1,y2⟩:=hy
   have lc:=rel_len a _ _ x1
   have ld:=rel_len a _ _ y1
   obtain ⟨d,rfl⟩:∃ m,d=m + 1:=⟨d - 1,by omega⟩
   have pa:=run_part f3 w' pre c1 c2 lc
   have pb:=run_part f3 w' pre' d1 d2 ld
   refine eqf_cons' w' e1 (x:=valOf a c1) (y:=valOf a d1) (by rw [f1,← List.append_assoc];exact pa) (by rw [f1,hl,← List.append_assoc];exact pb) ((eq_run w' a d (by omega)).1 f.type c1 d1 x.1 y.1 f3 e2 x1 y1) ?_
   have:=(eq_run w' b (d + 1) h2).2 gs (pre ++ c1) (pre' ++ d1) c2 d2 x.2 y.2 (by rw [List.length_append,lc];exact f4) (by simp [hl,lc,ld]) e3 x2 y2
   simpa [List.append_assoc] using this
  refine ⟨fun id cs cs' x y h he hx hy=>?_,fun fs pre pre' cs cs' x y hf hl he hx hy=>?_⟩
  ·obtain ⟨fs,hu,hf⟩:=tyChk_struct h (by simp) rfl
   simp only [eqChk] at he
   obtain ⟨de,hde,he⟩:=undChk_some he
   rw [hu] at hde
   cases hde
   simp only [Bool.and_eq_true,Bool.not_eq_true'] at he
   have hfo:P.fieldsOf id=fs:=by simp [Program.fieldsOf,hu]
   simp only [valOf,Ty.isAgg]
   rw [run_equalIn_struct (P:=P) w' d id cs.toArray cs'.toArray (by rw [hfo];exact hu) he.1,hfo]
   have he2:eqChk P (.pair a b) (some fs.toList) 0=true:=by
    have h2:=he.2
    simp only [eqChk]
    cases hl:fs.toList with
    | nil=>rw [hl] at h2;simp at h2
    | cons f gs=>rw [hl] at h2;simpa using h2
   exact flds d (by omega) (by omega) fs.toList [] [] cs cs' x y hf rfl he2 hx hy
  ·exact flds d (by omega) (by omega) fs pre pre' cs cs' x y hf hl he hx hy
end Ev
end Go.Proofs.YtlfcdmibknmjeaaGreatDoor
namespace Go.Proofs.YtlfcdmibknmjeaaGreatDoor
namespace Ev
open Go Go.RowKit
variable {P:Program} {G:List GV} {E:Entry} {fr hp:List SV} {w:World} {β:Nat→BI} {N:Reg} {r:Unit × List SV × List SV} {a:Act} {o:Oper} {T:Tab}
abbrev U (P:Program) (G:List GV):=Acc P G Unit
theorem does_gh {hp':List SV} {N':Reg} {v:SV} {u:Value} (hrun:(execOp a.eval o).run P w=.ok (.value u) w) (h:Gh G E fr hp a.tmps w β N hp' N') (hv:VR β hp' w N' v u)
 (hr:run (setD o.dst v (.pure ()):U P G) fr hp'=some r):Does P o a w (After G E a r):=does_val hrun h.sim hv hr
theorem agg_val {t:Ty} (ht:t.isAgg=true) {x:t.denote} {u:Value} (h:IsImm w N t x u):∃ cs,u=.agg cs.toArray∧u=valOf t cs∧rel w N t x cs:=by
 obtain ⟨cs,h1,h2⟩:=h
 refine ⟨cs,?_,h2,h1⟩
 rw [h2];unfold valOf;rw [ht]
theorem eq_struct {op:BinOp} {t:Ty} {ty:TypeId} {x y:t.denote} {ux uy:Value} (ox oy:Operand) (ht:tyChk P t none ty=true) (ha:t.isAgg=true) (hq:eqChk P t none ty=true) (hg:P.eqGuardType P.depth ty=false) (hh:t.high ≤ 9999)
 (hx:IsImm w N t x ux) (hy:IsImm w N t y uy):(op=.eql→((do eqGuard op ty ox oy ux uy;binOp op ty ux uy):Sem Value).run P w=.ok (.bool (eqv t x y)) w) ∧
  (op=.neq→((do eqGuard op ty ox oy ux uy;binOp op ty ux uy):Sem Value).run P w=.ok (.bool (!eqv t x y)) w):=by
 obtain ⟨cs,e1,e1',r1⟩:=agg_val ha hx
 obtain ⟨ds,e2,e2',r2⟩:=agg_val ha hy
 have he:=(eq_run (P:=P) w t 9999 hh).1 ty cs ds x y ht hq r1 r2
 rw [← e1',← e2',e1,e2] at he
 rw [e1,e2]
 constructor
 ·rintro rfl
  simp only [Sem.run_bind,run_eqGuard_agg (P:=P) w .eql ty ox oy cs.toArray ds.toArray hg,Result.andThen_ok,run_eql_struct,he]
 ·rintro rfl
  simp only [Sem.run_bind,run_eqGuard_agg (P:=P) w .neq ty ox oy cs.toArray ds.toArray hg,Result.andThen_ok,run_neq_struct,he]
theorem eqn_slice (d:Nat) {t e:TypeId} (hu:P.underlying t=some (.slice e)) (A:Addr) (n m:Nat):(Op.equalIn (d + 1) t (.slice (some A) n m) (.slice none 0 0)).run P w=.ok false w:=by
 rw [Op.equalIn];simp [run_underlying hu]
theorem eqn_nilS (d:Nat) {t e:TypeId} (hu:P.underlying t=some (.slice e)):(Op.equalIn (d + 1) t (.slice none 0 0) (.slice none 0 0)).run P w=.ok true w:=by
 rw [Op.equalIn];simp [run_underlying hu]
theorem eqn_nilP (d:Nat) {t e:TypeId} (hu:P.underlying t=some (.pointer e)) (b:Option Addr):(Op.equalIn (d + 1) t (.pointer none) (.pointer b)).run P w=.ok b.isNone w:=by
 rw [Op.equalIn];simp [run_underlying hu]
theorem eqn_ptr (d:Nat) {t e:TypeId} (hu:P.underlying t=some (.pointer e)) (b:Addr):(Op.equalIn (d + 1) t (.pointer (some b)) (.pointer none)).run P w=.ok false w:=by
 rw [Op.equalIn];simp [run_underlying hu]
theorem nilCmp_elim {op:BinOp} {same:Bool} {k:SV→U P G} (hr:run (nilCmp op same k) fr hp=some r):(op=.eql∧run (k (.imm .bool same)) fr hp=some r) ∨ (op=.neq∧run (k (.imm .bool (!same))) fr hp=some r):=by
 unfold nilCmp at hr
 cases op with
 | eql=>exact .inl ⟨rfl,hr⟩
 | neq=>exact .inr ⟨rfl,hr⟩
 | _=>exact fail_elim hr
theorem nil_run {op:BinOp} {ty:TypeId} {x y:Operand} {yt:TypeId} (ho:o.op=.binOp op ty x y yt) {same:Bool} (hg:eqGuard op ty x y (a.eval x) (a.eval y)=pure ()) (he:(Op.equal ty (a.eval x) (a.eval y)).run P w=.ok same w) (hop:op=.eql ∨ op=.neq)
 (hb:∀ op,op=.eql ∨ op=.neq→binOp op ty (a.eval x) (a.eval y)=(do pure (.bool ((if op matches .eql then id else not) (← Op.equal ty (a.eval x) (a.eval y)))))) :
 (execOp a.eval o).run P w=.ok (.value (.bool (if op matches .eql then same else !same))) w:=by
 unfold execOp
 rw [ho]
 simp only [hg,hb op hop]
 rcases hop with rfl | rfl <;> simp [he]
theorem op_bin (hT:tabChk P T=true) {op:BinOp} {ty ty':TypeId} {x y:Operand} (ho:o.op=.binOp op ty x y ty') (h:Sim G E fr hp a.tmps w β N)
 (hr:run (rdO x fun x=>rdO y fun y=>binA T op ty x y fun v=>setD o.dst v (.pure ()):U P G) fr hp=some r):Does P o a w (After G E a r):=by
 obtain ⟨vx,hx,hr⟩:=rdO_elim h hr
 obtain ⟨vy,hy,hr⟩:=rdO_elim h hr
 have hex:execOp a.eval o=(do let u ← (do eqGuard op ty x y (a.eval x) (a.eval y);binOp op ty (a.eval x) (a.eval y));pure (.value u):Sem Next):=by unfold execOp;rw [ho]
 have fin:∀ {v u hp' N'},Gh G E fr hp a.tmps w β N hp' N'→VR β hp' w N' v u→((do eqGuard op ty x y (a.eval x) (a.eval y);binOp op ty (a.eval x) (a.eval y)):Sem Value).run P w=.ok u w →
  run (setD o.dst v (.pure ()):U P G) fr hp'=some r→Does P o a w (After G E a r):=by
  intro v u hp' N' hg hv hrun hr
  exact does_gh (by rw [hex];simp only [Sem.run_bind] at hrun ⊢;rw [hrun];simp) hg hv hr
 cases vx with
 | imm tx vx =>
  cases tx with
  | int j =>
   have ex:=vint hx
   cases vy with
   | imm t' vy =>
    cases t' with
    | int j' =>
     have ey:=vint hy
     have gd:eqGuard op ty x y (a.eval x) (a.eval y)=pure ():=by rw [ex];exact eqGuard_at_int op ty x y _ j vx
     have sh:∀ (hop:op=.shl ∨ op=.shr),run (intBin (P:=P) (G:=G) .add j vx vy fun _=>.fail) fr hp=some r ∨ True:=fun _=>.inr trivial
     by_cases h1:op=.shl
     ·subst h1
      obtain ⟨h0,hr⟩:=br_fail hr
      have h0:¬ vy < 0:=by simpa using h0
      exact fin (Gh.refl h) (ivint j _) (by rw [gd,ex,ey];simp [binOp,Op.shift,h0,shlI]) hr
     ·by_cases h2:op=.shr
      ·subst h2
       obtain ⟨h0,hr⟩:=br_fail hr
       have h0:¬ vy < 0:=by simpa using h0
       exact fin (Gh.refl h) (ivint j _) (by rw [gd,ex,ey];simp [binOp,Op.shift,h0,shrI]) hr
      ·have hr2:run (if j=j' then intBin op j vx vy (fun v=>setD o.dst v (.pure ())) else .fail:U P G) fr hp=some r:=by
        cases op <;> first | exact hr | exact (h1 rfl).elim | exact (h2 rfl).elim
       split at hr2
       ·rename_i e
        subst e
        obtain ⟨v,u,hv,hrun,hr⟩:=eq_int (β:=β) (w:=w) (N:=N) ty hr2
        exact fin (Gh.refl h) hv (by rw [gd,ex,ey];simpa using hrun) hr
       ·exact fail_elim hr2
    | _=>exact fail_elim hr
   | _=>exact fail_elim hr
  | str =>
   have ex:=vstr hx
   cases vy with
   | imm t' vy =>
    cases t' with
    | str =>
     have ey:=vstr hy
     have gd:eqGuard op ty x y (a.eval x) (a.eval y)=pure ():=by rw [ex];exact eqGuard_at_string op ty x y _ vx
     obtain ⟨v,u,hv,hrun,hr⟩:=eq_str (β:=β) (w:=w) (N:=N) ty (show run (strBin op vx vy fun v=>setD o.dst v (.pure ()):U P G) fr hp=some r from hr)
     exact fin (Gh.refl h) hv (by rw [gd,ex,ey];simpa using hrun) hr
    | _=>exact fail_elim hr
   | _=>exact fail_elim hr
  | bool =>
   have ex:=vbool hx
   cases vy with
   | imm t' vy =>
    cases t' with
    | bool =>
     have ey:=vbool hy
     have gd:eqGuard op ty x y (a.eval x) (a.eval y)=pure ():=by rw [ex];exact eqGuard_at_bool op ty x y _ vx
     cases op with
     | eql =>
      obtain ⟨t,ht,hr⟩:=tyA_elim hT hr
      obtain ⟨rfl,hr⟩:=eqA_elim hr
      exact fin (Gh.refl h) (ivbool _) (by rw [gd,ex,ey];simp [binOp,Op.equal,Op.maxDepth,run_equalIn_bool' (P:=P) w 9999 ty vx vy (tyChk_bool ht)]) hr
     | neq =>
      obtain ⟨t,ht,hr⟩:=tyA_elim hT hr
      obtain ⟨rfl,hr⟩:=eqA_elim hr
      exact fin (Gh.refl h) (ivbool _) (by rw [gd,ex,ey];simp [binOp,Op.equal,Op.maxDepth,run_equalIn_bool' (P:=P) w 9999 ty vx vy (tyChk_bool ht)]) hr
     | _=>exact fail_elim hr
    | _=>exact fail_elim hr
   | _=>exact fail_elim hr
  | pair p q =>
   obtain ⟨t,ht,ha,hq,hg,hh,hr1⟩:=tyQ_elim hT hr
   obtain ⟨e,hr2⟩:=eqA_elim hr1
   subst e
   clear hr hr1
   obtain ⟨hp',N',y',g,hy',hr⟩:=immA_elim h hr2 hy
   have hs:=eq_struct (op:=op) x y ht ha hq hg hh (IsImm.ext g.ext hx) hy'
   cases op with
   | eql=>exact fin g (ivbool _) (hs.1 rfl) hr
   | neq=>exact fin g (ivbool _) (hs.2 rfl) hr
   | _=>exact fail_elim hr
  | arr p q =>
   obtain ⟨t,ht,ha,hq,hg,hh,hr1⟩:=tyQ_elim hT hr
   obtain ⟨e,hr2⟩:=eqA_elim hr1
   subst e
   clear hr hr1
   obtain ⟨hp',N',y',g,hy',hr⟩:=immA_elim h hr2 hy
   have hs:=eq_struct (op:=op) x y ht ha hq hg hh (IsImm.ext g.ext hx) hy'
   cases op with
   | eql=>exact fin g (ivbool _) (hs.1 rfl) hr
   | neq=>exact fin g (ivbool _) (hs.2 rfl) hr
   | _=>exact fail_elim hr
  | list u =>
   cases vy with
   | nilS =>
    obtain ⟨t,ht,hr⟩:=tyA_elim hT hr
    cases t with
    | list t' =>
     obtain ⟨h0,hr⟩:=br_ok hr
     have h0:0 < vx.length:=by simpa using h0
     obtain ⟨e,hu,_⟩:=tyChk_list ht
     obtain ⟨A,cap,ex,_,hA⟩:=imm1 (t:=.list u) rfl hx
     obtain ⟨ad,_,eA,_,_⟩:=hA 0 h0
     have ex:a.eval x=.slice A vx.length cap:=by simpa using ex
     have ey:a.eval y=.slice none 0 0:=hy
     subst eA
     have he:(Op.equal ty (a.eval x) (a.eval y)).run P w=.ok false w:=by
      rw [ex,ey];exact eqn_slice 9999 hu _ _ _
     rcases nilCmp_elim hr with ⟨e1,hr⟩ | ⟨e1,hr⟩ <;> subst e1
     ·exact does_val (nil_run ho (by rw [ex];exact eqGuard_at_slice _ _ _ _ _ _ _ _) he (.inl rfl) (by rintro _ (rfl | rfl) <;> rw [ex,ey] <;> rfl)) h (ivbool _) hr
     ·exact does_val (nil_run ho (by rw [ex];exact eqGuard_at_slice _ _ _ _ _ _ _ _) he (.inr rfl) (by rintro _ (rfl | rfl) <;> rw [ex,ey] <;> rfl)) h (ivbool _) hr
    | _=>exact fail_elim hr
   | _=>exact fail_elim hr
  | _=>exact fail_elim hr
 | nilS =>
  cases vy with
  | nilS =>
   obtain ⟨t,ht,hr⟩:=tyA_elim hT hr
   cases t with
   | list t' =>
    obtain ⟨e,hu,_⟩:=tyChk_list ht
    have ex:a.eval x=.slice none 0 0:=hx
    have ey:a.eval y=.slice none 0 0:=hy
    have he:(Op.equal ty (a.eval x) (a.eval y)).run P w=.ok true w:=by
     rw [ex,ey];exact eqn_nilS 9999 hu
    rcases nilCmp_elim hr with ⟨e1,hr⟩ | ⟨e1,hr⟩ <;> subst e1
    ·exact does_val (nil_run ho (by rw [ex];exact eqGuard_at_slice _ _ _ _ _ _ _ _) he (.inl rfl) (by rintro _ (rfl | rfl) <;> rw [ex,ey] <;> rfl)) h (ivbool _) hr
    ·exact does_val (nil_run ho (by rw [ex];exact eqGuard_at_slice _ _ _ _ _ _ _ _) he (.inr rfl) (by rintro _ (rfl | rfl) <;> rw [ex,ey] <;> rfl)) h (ivbool _) hr
   | _=>exact fail_elim hr
  | _=>exact fail_elim hr
 | own id ver =>
  cases vy with
  | nilS =>
   obtain ⟨t,ht,hr⟩:=tyA_elim hT hr
   cases t with
   | list t' =>
    obtain ⟨e,hu,_⟩:=tyChk_list ht
    have ey:a.eval y=.slice none 0 0:=hy
    obtain ⟨_,_,_,h3⟩:=(hx:nth hp id ≠ .none∧ver ≤ bver (nth hp id)∧(a.eval x).oneCell'=true∧∀ sh e t xs,nth hp id=.row ver sh e t xs→a.eval x=(β id).val)
    simp only [run,if_true] at hr
    split at hr
    ·rename_i v' sh e' t' xs hrow
     obtain ⟨hver,hr2⟩:=cond_fail hr
     have hver:v'=ver:=Nat.eq_of_beq_eq_true hver
     subst hver
     obtain ⟨h0,hr3⟩:=br_ok hr2
     have h0:0 < xs.length:=by simpa using h0
     have hbr:=h.box id
     rw [hrow] at hbr
     obtain ⟨A,cap,e2,_,_,_,e4⟩:=hbr.1.cells
     obtain ⟨ad,_,eA,_,_⟩:=e4 0 h0
     subst eA
     have ex:a.eval x=.slice (some ad) xs.length cap:=(h3 _ _ _ _ hrow).trans e2
     have he:(Op.equal ty (a.eval x) (a.eval y)).run P w=.ok false w:=by
      rw [ex,ey];exact eqn_slice 9999 hu _ _ _
     rcases nilCmp_elim hr3 with ⟨e1,hr9⟩ | ⟨e1,hr9⟩ <;> subst e1
     ·exact does_val (nil_run ho (by rw [ex];exact eqGuard_at_slice _ _ _ _ _ _ _ _) he (.inl rfl) (by rintro _ (rfl | rfl) <;> rw [ex,ey] <;> rfl)) h (ivbool _) hr9
     ·exact does_val (nil_run ho (by rw [ex];exact eqGuard_at_slice _ _ _ _ _ _ _ _) he (.inr rfl) (by rintro _ (rfl | rfl) <;> rw [ex,ey] <;> rfl)) h (ivbool _) hr9
    ·exact fail_elim hr
   | _=>exact fail_elim hr
  | _=>exact fail_elim hr
 | nilP =>
  have ex:a.eval x=.pointer none:=hx
  cases vy with
  | nilP =>
   obtain ⟨⟨e,hu⟩,hr⟩:=tyP_elim hT hr
   have ey:a.eval y=.pointer none:=hy
   have he:(Op.equal ty (a.eval x) (a.eval y)).run P w=.ok true w:=by
    rw [ex,ey];exact eqn_nilP 9999 hu none
   rcases nilCmp_elim hr with ⟨e1,hr⟩ | ⟨e1,hr⟩ <;> subst e1
   ·exact does_val (nil_run ho (by rw [ex];exact eqGuard_at_pointer _ _ _ _ _ _) he (.inl rfl) (by rintro _ (rfl | rfl) <;> rw [ex,ey] <;> rfl)) h (ivbool _) hr
   ·exact does_val (nil_run ho (by rw [ex];exact eqGuard_at_pointer _ _ _ _ _ _) he (.inr rfl) (by rintro _ (rfl | rfl) <;> rw [ex,ey] <;> rfl)) h (ivbool _) hr
  | ptr id ver p u =>
   obtain ⟨⟨e,hu⟩,hr⟩:=tyP_elim hT hr
   obtain ⟨_,_,⟨ad,ey⟩,_⟩:=(hy:nth hp id ≠ .none∧ver ≤ bver (nth hp id)∧(∃ ad,a.eval y=.pointer (some ad))∧(ver=bver (nth hp id)→∃ o,inBox (β id).bt (nth hp id) p=some (o,u)∧a.eval y=.pointer (some ⟨(β id).blk,o,none⟩)))
   have he:(Op.equal ty (a.eval x) (a.eval y)).run P w=.ok false w:=by
    rw [ex,ey];exact eqn_nilP 9999 hu (some ad)
   rcases nilCmp_elim hr with ⟨e1,hr⟩ | ⟨e1,hr⟩ <;> subst e1
   ·exact does_val (nil_run ho (by rw [ex];exact eqGuard_at_pointer _ _ _ _ _ _) he (.inl rfl) (by rintro _ (rfl | rfl) <;> rw [ex,ey] <;> rfl)) h (ivbool _) hr
   ·exact does_val (nil_run ho (by rw [ex];exact eqGuard_at_pointer _ _ _ _ _ _) he (.inr rfl) (by rintro _ (rfl | rfl) <;> rw [ex,ey] <;> rfl)) h (ivbool _) hr
  | _=>exact fail_elim hr
 | ptr id ver p u =>
  obtain ⟨_,_,⟨ad,ex⟩,_⟩:=(hx:nth hp id ≠ .none∧ver ≤ bver (nth hp id)∧(∃ ad,a.eval x=.pointer (some ad))∧(ver=bver (nth hp id)→∃ o,inBox (β id).bt (nth hp id) p=some (o,u)∧a.eval x=.pointer (some ⟨(β id).blk,o,none⟩)))
  cases vy with
  | nilP =>
   obtain ⟨⟨e,hu⟩,hr⟩:=tyP_elim hT hr
   have ey:a.eval y=.pointer none:=hy
   have he:(Op.equal ty (a.eval x) (a.eval y)).run P w=.ok false w:=by
    rw [ex,ey];exact eqn_ptr 9999 hu ad
   rcases nilCmp_elim hr with ⟨e1,hr⟩ | ⟨e1,hr⟩ <;> subst e1
   ·exact does_val (nil_run ho (by rw [ex];exact eqGuard_at_pointer _ _ _ _ _ _) he (.inl rfl) (by rintro _ (rfl | rfl) <;> rw [ex,ey] <;> rfl)) h (ivbool _) hr
   ·exact does_val (nil_run ho (by rw [ex];exact eqGuard_at_pointer _ _ _ _ _ _) he (.inr rfl) (by rintro _ (rfl | rfl) <;> rw [ex,ey] <;> rfl)) h (ivbool _) hr
  | _=>exact fail_elim hr
 | agg t' vs =>
  obtain ⟨t,ht,ha,hq,hg,hh,hr⟩:=tyQ_elim hT hr
  obtain ⟨hp1,N1,x',g1,hx',hr⟩:=immA_elim h hr hx
  obtain ⟨hp2,N2,y',g2,hy',hr⟩:=immA_elim g1.sim hr (VR.later g1.later g1.ext hy)
  have hs:=eq_struct (op:=op) x y ht ha hq hg hh (IsImm.ext g2.ext hx') hy'
  cases op with
  | eql=>exact fin (g1.trans g2) (ivbool _) (hs.1 rfl) hr
  | neq=>exact fin (g1.trans g2) (ivbool _) (hs.2 rfl) hr
  | _=>exact fail_elim hr
 | _=>exact fail_elim hr
theorem op_un {op:UnOp} {ty:TypeId} {x:Operand} (ho:o.op=.unOp op ty x) (h:Sim G E fr hp a.tmps w β N)
 (hr:run (rdO x fun x=>(match op with
  | .not=>(match x with | .imm .bool b=>setD o.dst (.imm .bool (!b)) (.pure ()) | _=>.fail)
  | .neg=>(match x with | .imm (.int j) n=>setD o.dst (.imm (.int j) (j.wrap (0 - n))) (.pure ()) | _=>.fail)
  | .xor=>(match x with | .imm (.int j) n=>setD o.dst (.imm (.int j) (cplI j n)) (.pure ()) | _=>.fail)
  | _=>.fail):U P G) fr hp=some r):Does P o a w (After G E a r):=by
 obtain ⟨vx,hx,hr⟩:=rdO_elim h hr
 cases op with
 | not =>
  cases vx with
  | imm t b=>cases t with
   | bool =>
    have ex:=vbool hx
    exact does_val (u:=.bool (!b)) (by unfold execOp;rw [ho];simp [ex,Op.unary]) h (ivbool _) hr
   | _=>exact fail_elim hr
  | _=>exact fail_elim hr
 | neg =>
  cases vx with
  | imm t n=>cases t with
   | int j =>
    have ex:=vint hx
    exact does_val (u:=.int j (j.wrap (0 - n))) (by unfold execOp;rw [ho];simp [ex,Op.unary,Op.intArith]) h (ivint _ _) hr
   | _=>exact fail_elim hr
  | _=>exact fail_elim hr
 | xor =>
  cases vx with
  | imm t n=>cases t with
   | int j =>
    have ex:=vint hx
    exact does_val (u:=.int j (cplI j n)) (by unfold execOp;rw [ho];simp [ex,Op.unary,cplI,Op.intBits]) h (ivint _ _) hr
   | _=>exact fail_elim hr
  | _=>exact fail_elim hr
 | _=>exact fail_elim hr
theorem op_nilCheck {x:Operand} (ho:o.op=.nilCheck x) (h:Sim G E fr hp a.tmps w β N) (hr:run (rdO x fun x=>(match x with | .ptr i v p t=>setD o.dst (.ptr i v p t) (.pure ()) | .iptr t y=>setD o.dst (.iptr t y) (.pure ()) | _=>.fail):U P G) fr hp=some r) :
 Does P o a w (After G E a r):=by
 obtain ⟨vx,hx,hr⟩:=rdO_elim h hr
 cases vx with
 | iptr t y =>
  have hx0:=hx
  obtain ⟨ad,cs,e,h1,h2⟩:=(hx0:∃ ad cs,a.eval x=.pointer (some ad)∧rel w N t y cs∧At w N ad cs)
  exact does_val (u:=a.eval x) (by unfold execOp;rw [ho];simp [e]) h hx hr
 | ptr i v p t =>
  have hx0:=hx
  obtain ⟨_,_,⟨ad,e⟩,_⟩:=(hx0:nth hp i ≠ .none∧v ≤ bver (nth hp i)∧(∃ ad,a.eval x=.pointer (some ad))∧_)
  exact does_val (u:=a.eval x) (by unfold execOp;rw [ho];simp [e]) h hx hr
 | _=>exact fail_elim hr
theorem op_extract {x:Operand} {i:Nat} (ho:o.op=.extract x i) (h:Sim G E fr hp a.tmps w β N) (hr:run (rdO x fun t=>(match t with | .tup vs=>nthA vs i fun v=>setD o.dst v (.pure ()) | _=>.fail):U P G) fr hp=some r):Does P o a w (After G E a r):=by
 obtain ⟨vx,hx,hr⟩:=rdO_elim h hr
 cases vx with
 | tup vs =>
  obtain ⟨us,e,hl,hu⟩:=(hx:∃ us:List Value,a.eval x=.tuple us.toArray∧us.length=vs.length∧∀ i,i < vs.length→VR1 β hp w N (nth vs i) (us.getD i undef))
  have key:∀ (vs:List SV) (i:Nat) (k:SV→U P G),run (nthA vs i k) fr hp=some r→i < vs.length∧run (k (nth vs i)) fr hp=some r:=by
   intro vs
   induction vs with
   | nil=>intro i k hr;cases i <;> exact fail_elim hr
   | cons v vs ih =>
    intro i k hr
    cases i with
    | zero=>exact ⟨by simp,hr⟩
    | succ i=>obtain ⟨h1,h2⟩:=ih i k hr;exact ⟨by simpa using h1,h2⟩
  obtain ⟨hi,hr⟩:=key vs i _ hr
  have hi':i < us.length:=by omega
  have hv:=hu i hi
  have hnt:VR β hp w N (nth vs i) (us.getD i undef):=by
   cases hn:nth vs i <;> rw [hn] at hv <;> first | exact hv | exact (hv:False).elim
  refine does_val (u:=us.getD i undef) ?_ h hnt hr
  unfold execOp;rw [ho]
  simp [e,Instr.extract,hi']
 | _=>exact fail_elim hr
end Ev
end Go.Proofs.YtlfcdmibknmjeaaGreatDoor
