import Derived.Test.YtlfcdmibknmjeaaGreatDoorYEvA2
import Derived.Test.YtlfcdmibknmjeaaGreatDoorProg
import Derived.Shelf.RegionOpenPlain
import Derived.WalkKit
import Derived.Deep.LoopGhost
import Derived.Lib.Walk
import Derived.Sort.WalkB12
import Derived.Lib.SlicesMore
namespace Go.Proofs.YtlfcdmibknmjeaaGreatDoor.E
open Go Go.Proofs.YtlfcdmibknmjeaaGreatDoor.Ev
open Go.Sort
abbrev encU (n:Int):Value:=.int .u8 n
set_option maxHeartbeats 1600000 in
set_option maxRecDepth 1000000 in
theorem rev_arr (blk off cap:Nat) (d:Array Int) (w:World) (hH:Holds encU w blk off d) (hsz:d.size ≤ 9223372036854775807) :
 Calls Tryz.prog 166 #[.slice (some ⟨blk,off,none⟩) d.size cap] w fun e w'=>e=.returned (.tuple #[])∧∃ n,w'=putRow encU (Sort.ahead w n) blk off d.reverse:=by
 have mixed:Tryz.prog.follows .mixedOrders=true:=by kernel_rfl
 go_enter Tryz.func166,Tryz.ntmps166
 go_wp2
 go_loopg [2,3] d.size (fun k s2 s3 wr=>∃ (i jn:Nat) (jz:Int) (dk:Array Int) (n:Nat),s2=.int .i64 i∧s3=.int .i64 jz∧((i:Int) < jz→jz=jn∧jn < d.size)∧(¬ (i:Int) < jz→¬ i < jn)∧jn - i ≤ k ∧
  dk.size=d.size∧wr=putRow encU (Sort.ahead w n) blk off dk∧reverseLoop i jn dk=reverseLoop 0 (d.size - 1) d)
 case atStart=>exact ⟨0,d.size - 1,(d.size:Int) - 1,d,0,rfl,rfl,fun h=>⟨by omega,by omega⟩,fun h=>by omega,by omega,rfl,(putRow_self encU w blk off d hH).symm,rfl⟩
 case round =>
  obtain ⟨i,jn,jz,dk,n,rfl,rfl,h1,h2,hk,hds,hwr,heq⟩:=hrel
  by_cases hlt:(i:Int) < jz
  ·obtain ⟨rfl,hjn⟩:=h1 hlt
   have hij:i < jn:=by omega
   have hHk:Holds encU wr blk off dk:=by rw [hwr];exact holds_putRow encU _ blk off d dk (holds_ahead encU w n blk off d hH) hds
   obtain ⟨ci,fi⟩:=hHk i (by omega)
   obtain ⟨cj,fj⟩:=hHk jn (by omega)
   have A:Aside (wr=putRow encU (Sort.ahead w n) blk off dk):=hwr
   clear hwr hHk hH h1 h2
   go_wp2_with fail
   go_region_o
   go_wp2
   go_roundg (jn - 1 - (i + 1))
   case measure=>omega
   case rel =>
    rw [reverseLoop,if_pos hij] at heq
    exact ⟨i + 1,jn - 1,(jn:Int) - 1,swp dk i jn,n + 1,by simp,rfl,fun h=>⟨by omega,by omega⟩,fun h=>by omega,Nat.le_refl _,by rw [size_swp];exact hds,
     swap_world encU (by omega) (by omega) A.out (by first | rfl | simp [encU,getElem!_pos,show jn < dk.size by omega]) (by first | rfl | simp [encU,getElem!_pos,show i < dk.size by omega]),heq⟩
  ·have hnot:=h2 hlt
   go_wp2
   go_end0
   refine ⟨rfl,n,?_⟩
   rw [reverseLoop,if_neg hnot] at heq
   rw [← Lib.reverseLoop_reverse,← heq]
theorem rev_empty (a:Option Addr) (cap:Nat) (w:World):Calls Tryz.prog 166 #[.slice a 0 cap] w fun e w'=>e=.returned (.tuple #[])∧w'=w:=by
 have mixed:Tryz.prog.follows .mixedOrders=true:=by kernel_rfl
 go_enter Tryz.func166,Tryz.ntmps166
 go_wp2
 go_loopg [2,3] 0 (fun _ s2 s3 wr=>s2=.int .i64 0∧s3=.int .i64 (-1)∧wr=w)
 case atStart=>exact ⟨rfl,rfl,rfl⟩
 case round =>
  obtain ⟨rfl,rfl,rfl⟩:=hrel
  go_wp2
  go_end0
  exact ⟨rfl,rfl⟩
theorem flat_ones:∀ (css:List (List Value)) (l:List Value),css.length=l.length→(∀ i (h:i < css.length) (h':i < l.length),css[i]=[l[i]])→css.flatten=l
 | [],[],_,_=>rfl
 | c :: css,v :: l,hl,h=>by
  have h0:=h 0 (by simp) (by simp)
  simp only [List.getElem_cons_zero] at h0
  rw [List.flatten_cons,h0,flat_ones css l (by simpa using hl) fun i h1 h2=>h (i + 1) (Nat.succ_lt_succ h1) (Nat.succ_lt_succ h2)]
  rfl
theorem revHolds (w:World) (N:Reg) (e:TypeId) (xs:List Int) (v:Value) (hrow:RowAt w N e (.int .u8) false xs v) (_:∀ b o,N b o→b < w.heap.size) :
 Calls Tryz.prog 166 #[v] w fun r w'=>r=.returned (.tuple #[])∧RowAt w' N e (.int .u8) false xs.reverse v∧Ext w N w' N∧Go.Proofs.YtlfcdmibknmjeaaGreatDoor.Ev.Left w w' v:=by
 obtain ⟨⟨css,h1,h2,h3⟩,h4⟩:=id hrow
 have hcs:css.flatten=xs.map encU:=flat_ones css (xs.map encU) (by simpa using h1) fun i hi hi'=>by
  have:css[i]=[.int .u8 xs[i]]:=h2 i (by simpa using hi') hi
  rw [this]
  simp
 rcases h3.2 with ⟨rfl,hn⟩ | ⟨g,cap,cur,rfl,e1,e2,e3,e4,e5,e6⟩
 ·have hx:xs=[]:=List.eq_nil_of_length_eq_zero hn
  subst hx
  refine (rev_empty none 0 w).mono fun r w' h=>?_
  obtain ⟨rfl,rfl⟩:=h
  exact ⟨rfl,hrow,Ext.refl _ _,Go.Proofs.YtlfcdmibknmjeaaGreatDoor.Ev.Left.refl _ _⟩
 ·have e6:cur.toList.take xs.length=xs.map encU:=by rw [← hcs,← e6];simp [Ty.size]
  have hsz:xs.length ≤ cur.size:=by rw [e5];simp [Ty.size];omega
  have hat:∀ j,j < xs.length→cur[j]?=some (encU (xs[j]?.getD 0)):=fun j hj=>by
   have:=congrArg (·[j]?) e6
   simp only [List.getElem?_take_of_lt hj,List.getElem?_map,Array.getElem?_toList] at this
   rw [this,List.getElem?_eq_getElem hj]
   rfl
  have hH:Holds encU w g 0 xs.toArray:=fun j hj=>by
   have hj:j < xs.length:=by simpa using hj
   refine ⟨?_,frozen_of_row w g (0 + j) cur e e2⟩
   rw [cell_of_row w g (0 + j) cur e (0,0) e2,Nat.zero_add,hat j hj,List.getElem?_eq_getElem hj]
   simp [getElem!_pos,hj]
  have hbig:xs.toArray.size ≤ 9223372036854775807:=by
   have:maxLen=9223372036854775807:=rfl
   simp
   omega
  have hc:=rev_arr g 0 cap xs.toArray w hH hbig
  rw [List.size_toArray] at hc
  refine hc.mono fun r w' h=>?_
  obtain ⟨rfl,n,rfl⟩:=h
  have hother:∀ k,k ≠ g→(putRow encU (Sort.ahead w n) g 0 xs.toArray.reverse).heap[k]?=w.heap[k]?:=fun k hk=>by
   show (w.heap.modify g _)[k]?=_
   rw [Array.getElem?_modify,if_neg (fun e=>hk e.symm)]
  have hself:(putRow encU (Sort.ahead w n) g 0 xs.toArray.reverse).heap[g]?=some (.cells (putCells encU 0 xs.toArray.reverse cur) e (0,0)):=by
   show (w.heap.modify g _)[g]?=_
   rw [Array.getElem?_modify,if_pos rfl,e2]
   rfl
  have hput:(putCells encU 0 xs.toArray.reverse cur).toList.take xs.length=xs.reverse.map encU:=by
   apply List.ext_getElem?
   intro j
   by_cases hj:j < xs.length
   ·rw [List.getElem?_take_of_lt hj,Array.getElem?_toList]
    have hc:j < cur.size:=by omega
    simp only [putCells,Array.getElem?_mapIdx,Array.getElem?_eq_getElem hc,Option.map_some,Nat.zero_le,true_and,Nat.zero_add,Nat.sub_zero,List.getElem?_map]
    have hs:j < xs.toArray.reverse.size:=by simpa using hj
    rw [if_pos hs,getElem!_pos _ j hs,List.getElem?_eq_getElem (by simpa using hj)]
    simp
   ·rw [List.getElem?_eq_none (by simp;omega),List.getElem?_eq_none (by simp;omega)]
  refine ⟨rfl,⟨⟨xs.reverse.map fun x=>[encU x],by simp,fun i hi hi'=>?_,?_,.inr ⟨g,cap,_,by simp,e1,hself,by simpa using e3,e4,?_,?_⟩⟩,fun g' hg' o ho=>?_⟩,fun b o hb=>⟨hb,?_⟩,⟨rfl,rfl,rfl,?_,fun k _ hk=>hother k fun e=>hk (by rw [e];rfl)⟩⟩
  ·simp only [List.getElem_map]
   exact (rfl:[encU _]=[.int .u8 _])
  ·rw [flat_ones _ (xs.reverse.map encU) (by simp) (fun i h h'=>by simp)]
   simp [Ty.size]
  ·simpa [putCells] using e5
  ·rw [flat_ones _ (xs.reverse.map encU) (by simp) (fun i h h'=>by simp)]
   simpa [Ty.size] using hput
  ·have:=(h4 g' hg' o ho).1
   cases this
  ·have hbg:b ≠ g:=fun e=>by
    subst e
    have:=(h4 b rfl o hb).1
    cases this
   unfold World.cell?
   rw [hother b hbg]
  ·show w.heap.size ≤ (w.heap.modify g _).size
   simp
end Go.Proofs.YtlfcdmibknmjeaaGreatDoor.E
