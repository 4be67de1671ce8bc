import Derived.Test.YtlfcdmibknmjeaaGreatDoorYGN3
import Derived.Test.YtlfcdmibknmjeaaGreatDoorYArMa
import Derived.Laws.BitsLemmas
section
namespace Go.Proofs.YtlfcdmibknmjeaaGreatDoor.E
open Go Go.Proofs.YtlfcdmibknmjeaaGreatDoor.Ev
set_option linter.unusedSimpArgs false
def Sz (a:List Int):Prop:=a.length ≤ 1073741824
theorem Sz.far {a:List Int} (h:Sz a):a.length ≤ 4294967296:=Nat.le_trans h (by decide)
theorem take_snoc {a:List Int} {i:Nat} (h:i < a.length):a.take (i + 1)=a.take i ++ [rdL (0:Int) a (i:Int)]:=by
 rw [List.take_succ_eq_append_getElem h]
 simp [rdL,List.getD_eq_getElem?_getD,List.getElem?_eq_getElem h]
theorem rd_lb {a:List Int} (ha:Lb a) {i:Nat} (h:i < a.length):0 ≤ rdL (0:Int) a (i:Int)∧rdL (0:Int) a (i:Int) < 4294967296:=by
 have:rdL (0:Int) a (i:Int)=a[i]:=by simp [rdL,List.getD_eq_getElem?_getD,List.getElem?_eq_getElem h]
 rw [this]
 exact ha _ (List.getElem_mem h)
theorem used_l {a:List Int} (ha:Lb a) (hs:a.length ≤ 4294967296):∀ i:Nat,i ≤ a.length→zT.V0 a (i:Int)=some ((usedN (a.take i):Nat):Int)
 | 0,_=>by
  refine zT.v0 _ _ ?_
  unfold zT.b0
  rw [df' (by omega),List.take_zero]
  unfold usedN
  rw [show val []=0 from rfl,limbs_zero]
  rfl
 | i + 1,h=>by
  refine zT.v0 _ _ ?_
  unfold zT.b0
  have w:IntKind.wrap .i64 (((i + 1:Nat):Int) - 1)=(i:Int):=by rw [wrap64 (by omega) (by omega)];omega
  rw [w,dt' (by omega),dt' (by omega),take_snoc (by omega)]
  simp only [cond_true]
  have hr:=rd_lb ha (i:=i) (by omega)
  by_cases hz:rdL (0:Int) a (i:Int)=0
  ·rw [hz,used_zero]
   exact used_l ha hs i (by omega)
  ·rw [show (rdL (0:Int) a (i:Int) == 0)=false by simpa using hz,used_last (ha.take i) (by omega),List.length_take,Nat.min_eq_left (by omega)]
   rfl
theorem used_v {a:List Int} (ha:Lb a) (hs:a.length ≤ 4294967296):zT.V a=some ((usedN a:Nat):Int):=by
 refine zT.v _ ?_
 unfold zT.b
 rw [used_l ha hs a.length (Nat.le_refl _),List.take_length]
 rfl
theorem trim_v {a:List Int} (ha:Lb a) (hs:a.length ≤ 4294967296):yo.V a=some (limbs (val a)):=by
 refine yo.v _ ?_
 unfold yo.b
 have hu:=used_le ha
 rw [used_v ha hs,Option.bind_some,dt' (by omega),← take_used ha]
 unfold copyL
 rw [List.length_replicate,List.drop_eq_nil_of_le (by simp;omega),List.append_nil]
 rfl
theorem at_is {a:List Int} (ha:Lb a) (i:Nat):wa.f a (i:Int)=some ((hdI (a.drop i):Nat):Int):=by
 unfold wa.f
 by_cases h:i < a.length
 ·rw [dt' (by omega),dt' (by omega)]
  have hr:=rd_lb ha h
  have e:hdI (a.drop i)=(rdL (0:Int) a (i:Int)).toNat:=by
   unfold hdI
   rw [List.drop_eq_getElem_cons h]
   simp [rdL,List.getD_eq_getElem?_getD,List.getElem?_eq_getElem h]
  rw [e]
  simp only [cond_true]
  congr 1
  omega
 ·rw [df' (by omega),List.drop_eq_nil_of_le (by omega)]
  rfl
theorem shr32 (n:Nat):shrI .u64 (n:Int) 32=((n / 4294967296:Nat):Int):=by
 unfold shrI
 rw [Int.fdiv_eq_ediv_of_nonneg _ (by decide)]
 rfl
theorem add32_is {x y c:Nat} (hx:x < 4294967296) (hy:y < 4294967296) (hc:c ≤ 1):yS.f (x:Int) (y:Int) (c:Int)=some ((((x + y + c) % 4294967296:Nat):Int),(((x + y + c) / 4294967296:Nat):Int)):=by
 unfold yS.f
 simp only [IntKind.wrap_u64,IntKind.wrap_u32]
 rw [show (((x:Int) % 18446744073709551616 + (y:Int) % 18446744073709551616) % 18446744073709551616 + (c:Int) % 18446744073709551616) % 18446744073709551616=((x + y + c:Nat):Int) by omega,shr32]
 congr 2
 omega
theorem sub32_is {x y c:Nat} (hx:x < 4294967296) (hy:y < 4294967296) (hc:c ≤ 1):yQ.f (x:Int) (y:Int) (c:Int)=some ((((4294967296 + x - y - c) % 4294967296:Nat):Int),((if x < y + c then 1 else 0:Nat):Int)):=by
 unfold yQ.f
 have hd:IntKind.wrap .u32 (IntKind.wrap .u32 ((x:Int) - (y:Int)) - (c:Int))=(((4294967296 + x - y - c) % 4294967296:Nat):Int):=by
  rw [IntKind.wrap_u32,IntKind.wrap_u32];omega
 rw [hd]
 have hdl:(4294967296 + x - y - c) % 4294967296 < 4294967296:=by omega
 generalize hD:(4294967296 + x - y - c) % 4294967296=d at hdl ⊢
 have ofn:∀ n:Nat,BitVec.ofInt IntKind.u32.bits (n:Int)=BitVec.ofNat 32 n:=fun n=>BitVec.ofInt_natCast 32 n
 have wr:∀ z:BitVec 32,IntKind.wrap .u32 ((z.toNat:Nat):Int)=((z.toNat:Nat):Int):=fun z=>by
  have:=z.isLt
  rw [IntKind.wrap_u32];omega
 have cp:∀ n:Nat,cplI .u32 (n:Int)=(((~~~ BitVec.ofNat 32 n).toNat:Nat):Int):=fun n=>by
  show IntKind.wrap .u32 ((((BitVec.ofInt 32 (4294967295:Int)) ^^^ (BitVec.ofInt 32 (n:Int))).toNat:Nat):Int)=_
  rw [show BitVec.ofInt 32 (4294967295:Int)=BitVec.allOnes 32 from by decide,BitVec.ofInt_natCast,BitVec.allOnes_xor]
  exact wr _
 have bx:∀ m n:Nat,bxor .u32 (m:Int) (n:Int)=(((BitVec.ofNat 32 m ^^^ BitVec.ofNat 32 n).toNat:Nat):Int):=fun m n=>by
  unfold bxor;rw [ofn,ofn];exact wr _
 have ba:∀ m n:Nat,band .u32 (m:Int) (n:Int)=(((BitVec.ofNat 32 m &&& BitVec.ofNat 32 n).toNat:Nat):Int):=fun m n=>by
  unfold band;rw [ofn,ofn];exact wr _
 have bo:∀ m n:Nat,bor .u32 (m:Int) (n:Int)=(((BitVec.ofNat 32 m ||| BitVec.ofNat 32 n).toNat:Nat):Int):=fun m n=>by
  unfold bor;rw [ofn,ofn];exact wr _
 have on:∀ z:BitVec 32,BitVec.ofNat 32 z.toNat=z:=fun z=>by simp
 rw [bx,cp,cp,ba,ba,bo]
 simp only [on]
 have key:∀ z:BitVec 32,shrI .u32 ((z.toNat:Nat):Int) 31=((if z.msb then 1 else 0:Nat):Int):=fun z=>by
  unfold shrI
  rw [Int.fdiv_eq_ediv_of_nonneg _ (by decide)]
  have:=z.isLt
  rw [BitVec.msb_eq_decide]
  have e:((2:Int) ^ min (Int.toNat 31) IntKind.u32.bits)=2147483648:=by decide
  rw [e]
  by_cases h:2147483648 ≤ z.toNat
  ·have:decide (2 ^ (32 - 1) ≤ z.toNat)=true:=by simpa using h
   rw [this];simp;omega
  ·have:decide (2 ^ (32 - 1) ≤ z.toNat)=false:=by simpa using h
   rw [this];simp;omega
 rw [key]
 congr 2
 have m:∀ n:Nat,n < 4294967296→(BitVec.ofNat 32 n).msb=decide (2147483648 ≤ n):=fun n hn=>by
  rw [BitVec.msb_eq_decide]
  simp [Nat.mod_eq_of_lt hn]
 simp only [BitVec.msb_or,BitVec.msb_and,BitVec.msb_not,BitVec.msb_xor,m x hx,m y hy,m d hdl,Nat.zero_lt_succ,decide_true,Bool.true_and,show decide (0 < 32)=true from rfl]
 congr 1
 by_cases h1:2147483648 ≤ x <;> by_cases h2:2147483648 ≤ y <;> by_cases h3:2147483648 ≤ d <;> by_cases h4:x < y + c <;> simp [h1,h2,h3,h4] <;> omega
end Go.Proofs.YtlfcdmibknmjeaaGreatDoor.E
end
section
namespace Go.Proofs.YtlfcdmibknmjeaaGreatDoor.E
open Go Go.Proofs.YtlfcdmibknmjeaaGreatDoor.Ev
set_option linter.unusedSimpArgs false
theorem add_l {a b:List Int} (ha:Lb a) (hb:Lb b):∀ (m i:Nat) (out:List Int) (c:Nat),m + i=out.length→c ≤ 1→out.length ≤ 4294967296 →
 yn.V0 a b out (c:Int) ((out.length:Nat):Int) (i:Int)=some (out.take i ++ addL m (a.drop i) (b.drop i) c)
 | 0,i,out,c,h,_,_=>by
  refine yn.v0 _ _ _ _ _ _ ?_
  unfold yn.b0
  rw [df' (by omega),addL,List.append_nil,List.take_of_length_le (by omega)]
  rfl
 | m + 1,i,out,c,h,hc,hl=>by
  refine yn.v0 _ _ _ _ _ _ ?_
  unfold yn.b0
  have h1:=hdI_lt (ha.drop i)
  have h2:=hdI_lt (hb.drop i)
  rw [dt' (by omega),at_is ha,at_is hb]
  simp only [cond_true,Option.bind_some]
  rw [add32_is h1 h2 hc,Option.bind_some,dt' (by omega),wrap64 (by omega) (by omega)]
  have ih:=add_l ha hb m (i + 1) (out.set i (((hdI (a.drop i) + hdI (b.drop i) + c) % 4294967296:Nat):Int)) ((hdI (a.drop i) + hdI (b.drop i) + c) / 4294967296) (by rw [List.length_set];omega) (by omega) (by rw [List.length_set];exact hl)
  rw [List.length_set] at ih
  simp only [cond_true]
  rw [show ((i:Int) + 1)=((i + 1:Nat):Int) by omega,show Int.toNat (i:Int)=i by omega,ih,addL,List.tail_drop,List.tail_drop]
  congr 1
  have e:(out.set i (((hdI (a.drop i) + hdI (b.drop i) + c) % 4294967296:Nat):Int)).take (i + 1)=out.take i ++ [(((hdI (a.drop i) + hdI (b.drop i) + c) % 4294967296:Nat):Int)]:=by
   rw [List.take_succ_eq_append_getElem (by rw [List.length_set];omega),List.getElem_set_self,List.take_set_of_le (Nat.le_refl i)]
  rw [e,List.append_assoc]
  rfl
theorem val_used {a:List Int}:val a < 4294967296 ^ usedN a:=(limbs_len _ _).1 (Nat.le_refl _)
theorem pow_mono {m n:Nat} (h:m ≤ n):4294967296 ^ m ≤ 4294967296 ^ n:=Nat.pow_le_pow_right (by omega) h
theorem add_v {a b:List Int} (ha:Lb a) (hb:Lb b) (sa:Sz a) (sb:Sz b):yn.V a b=some (limbs (val a + val b)):=by
 refine yn.v _ _ ?_
 unfold yn.b
 have ua:=used_le ha
 have ub:=used_le hb
 have sa':=sa.far
 have sb':=sb.far
 unfold Sz at sa sb
 have e:IntKind.wrap .i64 (mxI ((usedN a:Nat):Int) ((usedN b:Nat):Int) + 1)=((max (usedN a) (usedN b) + 1:Nat):Int):=by
  have:mxI ((usedN a:Nat):Int) ((usedN b:Nat):Int)=((max (usedN a) (usedN b):Nat):Int):=by unfold mxI;split <;> omega
  rw [this,wrap64 (by omega) (by omega)]
  omega
 rw [used_v ha sa',used_v hb sb']
 simp only [Option.bind_some]
 rw [e]
 generalize hn:max (usedN a) (usedN b) + 1=n
 rw [dt' (by omega)]
 simp only [cond_true,Int.toNat_natCast]
 have hlen:(copyL a (List.replicate n 0)).length=n:=by rw [copyL_len,List.length_replicate]
 have hl:=add_l ha hb n 0 (copyL a (List.replicate n 0)) 0 (by omega) (by omega) (by omega)
 rw [hlen] at hl ⊢
 rw [show yn.V0 a b (copyL a (List.replicate n 0)) 0 ((n:Nat):Int) 0=_ from hl]
 simp only [Option.bind_some,List.take_zero,List.nil_append,List.drop_zero]
 rw [trim_v (lb_addL _ _ _ _) (by rw [addL_len];omega),val_addL,Option.bind_some,Nat.add_zero,Nat.mod_eq_of_lt]
 have h1:=Nat.lt_of_lt_of_le (val_used (a:=a)) (pow_mono (show usedN a ≤ n - 1 by omega))
 have h2:=Nat.lt_of_lt_of_le (val_used (a:=b)) (pow_mono (show usedN b ≤ n - 1 by omega))
 have h3:4294967296 ^ n=4294967296 ^ (n - 1) * 4294967296:=by rw [← Nat.pow_succ];congr 1;omega
 omega
def cmpI (m n:Nat):Int:=if m < n then -1 else if n < m then 1 else 0
theorem cmpInt_is (a b:Int):yN.f a b=some (if a < b then -1 else if b < a then 1 else 0):=by
 unfold yN.f xd.f
 simp only [bne_self_eq_false,Option.bind_some,cond_false]
 by_cases h1:a < b
 ·rw [dt' h1,if_pos h1];rfl
 ·by_cases h2:b < a
  ·rw [df' h1,dt' (show a > b from h2),if_neg h1,if_pos h2];rfl
  ·rw [df' h1,df' (show ¬ a > b from h2),if_neg h1,if_neg h2];rfl
theorem cmpU_is (a b:Int):yB.f a b=some (if a < b then -1 else if b < a then 1 else 0):=by
 unfold yB.f yH.f
 simp only [bne_self_eq_false,Option.bind_some,cond_false]
 by_cases h1:a < b
 ·rw [dt' h1,if_pos h1];rfl
 ·by_cases h2:b < a
  ·rw [df' h1,dt' (show a > b from h2),if_neg h1,if_pos h2];rfl
  ·rw [df' h1,df' (show ¬ a > b from h2),if_neg h1,if_neg h2];rfl
theorem val_snoc {a:List Int} {i:Nat} (h:i < a.length):val (a.take (i + 1))=val (a.take i) + 4294967296 ^ i * (rdL (0:Int) a (i:Int)).toNat:=by
 rw [take_snoc h,val_app,List.length_take,Nat.min_eq_left (by omega)]
 simp [val]
theorem top_lt {x y u v P:Nat} (hx:x < P) (h:u < v):x + P * u < y + P * v:=by
 have:=Nat.mul_le_mul_left P (show u + 1 ≤ v from h)
 rw [Nat.mul_add] at this
 omega
theorem cmp_l {a b:List Int} (ha:Lb a) (hb:Lb b) (sa:Sz a) (sb:Sz b):∀ i:Nat,i ≤ a.length→i ≤ b.length →
 ye.V0 a b ((i:Int) - 1)=some (if val (a.take i)=val (b.take i) then Sum.inl () else Sum.inr (cmpI (val (a.take i)) (val (b.take i))))
 | 0,_,_=>by
  refine ye.v0 _ _ _ ?_
  unfold ye.b0
  rw [df' (by omega)]
  simp
 | i + 1,h1,h2=>by
  unfold Sz at sa sb
  refine ye.v0 _ _ _ ?_
  unfold ye.b0
  have e:(((i + 1:Nat):Int) - 1)=(i:Int):=by omega
  rw [e,dt' (by omega),dt' (by omega),dt' (by omega),cmpU_is,val_snoc (a:=a) (by omega),val_snoc (a:=b) (by omega)]
  simp only [cond_true,Option.bind_some]
  have r1:=rd_lb ha (i:=i) (by omega)
  have r2:=rd_lb hb (i:=i) (by omega)
  have l1:val (a.take i) < 4294967296 ^ i:=by have:=val_lt (ha.take i);rwa [List.length_take,Nat.min_eq_left (by omega)] at this
  have l2:val (b.take i) < 4294967296 ^ i:=by have:=val_lt (hb.take i);rwa [List.length_take,Nat.min_eq_left (by omega)] at this
  generalize hu:rdL (0:Int) a (i:Int)=u at r1
  generalize hv:rdL (0:Int) b (i:Int)=v at r2
  by_cases c1:u < v
  ·have:=top_lt (y:=val (b.take i)) l1 (show u.toNat < v.toNat by omega)
   rw [if_pos c1,if_neg (by omega)]
   unfold cmpI
   rw [if_pos this]
   rfl
  ·by_cases c2:v < u
   ·have:=top_lt (y:=val (a.take i)) l2 (show v.toNat < u.toNat by omega)
    rw [if_neg c1,if_pos c2,if_neg (by omega)]
    unfold cmpI
    rw [if_neg (by omega),if_pos this]
    rfl
   ·have huv:u=v:=by omega
    subst huv
    rw [if_neg c1,if_neg c2]
    simp only [bne_self_eq_false,cond_false]
    rw [wrap64 (by omega) (by omega),cmp_l ha hb sa sb i (by omega) (by omega)]
    unfold cmpI
    simp only [Nat.add_right_cancel_iff,Nat.add_lt_add_iff_right]
theorem cmp_v {a b:List Int} (ha:Lb a) (hb:Lb b) (sa:Sz a) (sb:Sz b):ye.V a b=some (cmpI (val a) (val b)):=by
 refine ye.v _ _ ?_
 unfold ye.b
 rw [used_v ha sa.far,used_v hb sb.far]
 simp only [Option.bind_some]
 rw [cmpInt_is,Option.bind_some]
 have ua:=used_le ha
 have ub:=used_le hb
 have low:∀ {x:List Int},0 < usedN x→4294967296 ^ (usedN x - 1) ≤ val x:=fun {x} hx=>by
  have:=mt (limbs_len (val x) (usedN x - 1)).2 (by show ¬ usedN x ≤ usedN x - 1;omega)
  omega
 by_cases c1:usedN a < usedN b
 ·have h1:=Nat.lt_of_lt_of_le (val_used (a:=a)) (pow_mono (show usedN a ≤ usedN b - 1 by omega))
  have h2:=low (x:=b) (by omega)
  rw [if_pos (by omega)]
  unfold cmpI
  rw [if_pos (by omega)]
  rfl
 ·by_cases c2:usedN b < usedN a
  ·have h1:=Nat.lt_of_lt_of_le (val_used (a:=b)) (pow_mono (show usedN b ≤ usedN a - 1 by omega))
   have h2:=low (x:=a) (by omega)
   rw [if_neg (by omega),if_pos (by omega)]
   unfold cmpI
   rw [if_neg (by omega),if_pos (by omega)]
   rfl
  ·have he:usedN a=usedN b:=by omega
   rw [if_neg (by omega),if_neg (by omega)]
   simp only [bne_self_eq_false,cond_false]
   unfold Sz at sa sb
   rw [wrap64 (by omega) (by omega),cmp_l ha hb sa sb (usedN a) ua (by omega)]
   have e1:val (a.take (usedN a))=val a:=by rw [take_used ha,val_limbs]
   have e2:val (b.take (usedN a))=val b:=by rw [he,take_used hb,val_limbs]
   rw [e1,e2,Option.bind_some]
   by_cases h:val a=val b
   ·rw [if_pos h,h];unfold cmpI;simp
   ·rw [if_neg h];rfl
theorem sub_l {b:List Int} (hb:Lb b):∀ (m i:Nat) (out:List Int) (c:Nat),Lb out→m + i=out.length→c ≤ 1→out.length ≤ 4294967296 →
 yg.V0 b out (c:Int) ((out.length:Nat):Int) (i:Int)=some (out.take i ++ subL m (out.drop i) (b.drop i) c)
 | 0,i,out,c,_,h,_,_=>by
  refine yg.v0 _ _ _ _ _ ?_
  unfold yg.b0
  rw [df' (by omega),subL,List.append_nil,List.take_of_length_le (by omega)]
  rfl
 | m + 1,i,out,c,ho,h,hc,hl=>by
  refine yg.v0 _ _ _ _ _ ?_
  unfold yg.b0
  have h1:=hdI_lt (ho.drop i)
  have h2:=hdI_lt (hb.drop i)
  have er:rdL (0:Int) out (i:Int)=((hdI (out.drop i):Nat):Int):=by
   have r:=rd_lb ho (i:=i) (by omega)
   have e:hdI (out.drop i)=(rdL (0:Int) out (i:Int)).toNat:=by
    unfold hdI
    rw [List.drop_eq_getElem_cons (by omega)]
    simp [rdL,List.getD_eq_getElem?_getD,List.getElem?_eq_getElem (show i < out.length by omega)]
   omega
  rw [dt' (by omega),dt' (by omega),at_is hb,er]
  simp only [cond_true,Option.bind_some]
  rw [sub32_is h1 h2 hc,Option.bind_some,wrap64 (by omega) (by omega)]
  generalize hd:(4294967296 + hdI (out.drop i) - hdI (b.drop i) - c) % 4294967296=d
  have hdl:d < 4294967296:=by omega
  have ho':Lb (out.set i (d:Int)):=fun x hx=>by
   rcases List.mem_or_eq_of_mem_set hx with hx | rfl
   ·exact ho x hx
   ·omega
  have ih:=sub_l hb m (i + 1) (out.set i (d:Int)) (if hdI (out.drop i) < hdI (b.drop i) + c then 1 else 0) ho' (by rw [List.length_set];omega) (by split <;> omega) (by rw [List.length_set];exact hl)
  rw [List.length_set] at ih
  simp only
  rw [show ((i:Int) + 1)=((i + 1:Nat):Int) by omega,show Int.toNat (i:Int)=i by omega,ih,subL,List.tail_drop,List.tail_drop,hd]
  congr 1
  have e:(out.set i (d:Int)).take (i + 1)=out.take i ++ [(d:Int)]:=by
   rw [List.take_succ_eq_append_getElem (by rw [List.length_set];omega),List.getElem_set_self,List.take_set_of_le (Nat.le_refl i)]
  have e2:(out.set i (d:Int)).drop (i + 1)=out.drop (i + 1):=by
   rw [List.drop_set_of_lt (by omega)]
  rw [e,e2,List.append_assoc]
  rfl
theorem sub_v {a b:List Int} (ha:Lb a) (hb:Lb b) (sa:Sz a) (sb:Sz b):yg.V a b=some (if val a < val b then Sum.inl false else Sum.inr (limbs (val a - val b),true)):=by
 refine yg.v _ _ ?_
 unfold yg.b
 rw [cmp_v ha hb sa sb,Option.bind_some]
 by_cases h:val a < val b
 ·unfold cmpI
  rw [if_pos h,if_pos h];rfl
 ·have hc:¬ cmpI (val a) (val b) < 0:=by unfold cmpI;rw [if_neg h];split <;> omega
  rw [df' hc,if_neg h,trim_v ha sa.far]
  simp only [cond_false,Option.bind_some]
  have hl:(limbs (val a)).length ≤ a.length:=used_le ha
  unfold Sz at sa
  have:=sub_l hb (limbs (val a)).length 0 (limbs (val a)) 0 (lb_limbs _) (by omega) (by omega) (by omega)
  rw [show yg.V0 b (limbs (val a)) 0 (((limbs (val a)).length:Nat):Int) 0=_ from this]
  simp only [Option.bind_some,List.take_zero,List.nil_append,List.drop_zero]
  rw [trim_v (lb_subL _ _ _ _) (by rw [subL_len];omega),Option.bind_some]
  have hv:=val_subL (limbs (val a)).length (limbs (val a)) b 0 (lb_limbs _) hb (by omega) (Nat.le_refl _) (by rw [val_limbs];omega)
  rw [val_limbs] at hv
  rw [show val (subL (limbs (val a)).length (limbs (val a)) b 0)=val a - val b by omega]
theorem of_v {n:Nat} (h:n < 18446744073709551616):xn.V (n:Int)=some (limbs n):=by
 refine xn.v _ ?_
 unfold xn.b
 rw [shr32,IntKind.wrap_u32,IntKind.wrap_u32]
 have e:val [(n:Int) % 4294967296,((n / 4294967296:Nat):Int) % 4294967296]=n:=by simp only [val];omega
 rw [trim_v (.cons (by omega) (.cons (by omega) .nil)) (by simp),e]
 rfl
end Go.Proofs.YtlfcdmibknmjeaaGreatDoor.E
end
section
namespace Go.Proofs.YtlfcdmibknmjeaaGreatDoor.E
open Go Go.Proofs.YtlfcdmibknmjeaaGreatDoor.Ev
set_option linter.unusedSimpArgs false
def mulL:Nat→List Int→List Int→Nat→Nat→List Int
 | 0,_,_,_,_=>[]
 | k + 1,b,r,x,c=>(((x * hdI b + hdI r + c) % 4294967296:Nat):Int) :: mulL k b.tail r.tail x ((x * hdI b + hdI r + c) / 4294967296)
theorem mulL_len:∀ k b r x c,(mulL k b r x c).length=k
 | 0,_,_,_,_=>rfl
 | k + 1,b,r,x,c=>by rw [mulL,List.length_cons,mulL_len]
theorem lb_mulL:∀ k b r x c,Lb (mulL k b r x c)
 | 0,_,_,_,_=>.nil
 | k + 1,b,r,x,c=>.cons (by omega) (lb_mulL k _ _ _ _)
theorem val_mulL:∀ k b r x c,val (mulL k b r x c)=(x * val b + val r + c) % 4294967296 ^ k
 | 0,b,r,x,c=>by rw [mulL,Nat.pow_zero,Nat.mod_one];rfl
 | k + 1,b,r,x,c=>by
  rw [mulL,val,val_mulL k,Nat.pow_succ,Nat.mul_comm (4294967296 ^ k),Nat.mod_mul,val_hd b,val_hd r,Nat.mul_add,show x * (4294967296 * val b.tail)=4294967296 * (x * val b.tail) by rw [Nat.mul_left_comm]]
  generalize x * hdI b=u
  generalize x * val b.tail=v
  have e1:(u + 4294967296 * v + (hdI r + 4294967296 * val r.tail) + c) % 4294967296=(u + hdI r + c) % 4294967296:=by omega
  have e2:(u + 4294967296 * v + (hdI r + 4294967296 * val r.tail) + c) / 4294967296=v + val r.tail + (u + hdI r + c) / 4294967296:=by omega
  rw [e1,e2]
  rfl
theorem u64n {n:Nat} (h:n < 18446744073709551616):IntKind.wrap .u64 (n:Int)=(n:Int):=by rw [IntKind.wrap_u64];omega
theorem u32n (n:Nat):IntKind.wrap .u32 (n:Int)=((n % 4294967296:Nat):Int):=by rw [IntKind.wrap_u32];omega
theorem prod_lt {x y:Nat} (hx:x < 4294967296) (hy:y < 4294967296):x * y ≤ 18446744065119617025:=by
 have:=Nat.mul_le_mul (show x ≤ 4294967295 by omega) (show y ≤ 4294967295 by omega)
 exact this
theorem rd_hd {a:List Int} (ha:Lb a) {i:Nat} (h:i < a.length):rdL (0:Int) a (i:Int)=((hdI (a.drop i):Nat):Int):=by
 have r:=rd_lb ha h
 have e:hdI (a.drop i)=(rdL (0:Int) a (i:Int)).toNat:=by
  unfold hdI
  rw [List.drop_eq_getElem_cons h]
  simp [rdL,List.getD_eq_getElem?_getD,List.getElem?_eq_getElem h]
 omega
theorem set_take {out:List Int} {i:Nat} {d:Int} (h:i < out.length):(out.set i d).take (i + 1)=out.take i ++ [d]:=by
 rw [List.take_succ_eq_append_getElem (by rw [List.length_set];omega),List.getElem_set_self,List.take_set_of_le (Nat.le_refl i)]
theorem set_drop {out:List Int} {i:Nat} {d:Int}:(out.set i d).drop (i + 1)=out.drop (i + 1):=by
 rw [List.drop_set_of_lt (by omega)]
theorem mul_l0 {b:List Int} (hb:Lb b) (out a:List Int) (i n i':Int) {x:Nat} (hx:x < 4294967296):∀ (m j:Nat) (row:List Int) (c:Nat),Lb row→m + j=row.length→c < 4294967296→row.length ≤ 4294967296 →
 zA.V0 b out i (x:Int) row (c:Int) a n i' ((row.length:Nat):Int) (j:Int)=some (b,(out,(i,(row.take j ++ mulL m (b.drop j) (row.drop j) x c,(a,(n,i'))))))
 | 0,j,row,c,_,h,_,_=>by
  refine zA.v0 _ _ _ _ _ _ _ _ _ _ _ ?_
  unfold zA.b0
  rw [df' (by omega),mulL,List.append_nil,List.take_of_length_le (by omega)]
  rfl
 | m + 1,j,row,c,hr,h,hc,hl=>by
  refine zA.v0 _ _ _ _ _ _ _ _ _ _ _ ?_
  unfold zA.b0
  have h1:=hdI_lt (hb.drop j)
  have h2:=hdI_lt (hr.drop j)
  have h3:=prod_lt hx h1
  rw [dt' (by omega)]
  simp only [cond_true]
  have first:(bif decide ((j:Int) < ((b.length:Nat):Int)) then (bif decide ((0:Int) ≤ (j:Int)∧(j:Int) < ((b.length:Nat):Int)) then some (b,(out,(i,((x:Int),(row,((IntKind.wrap .u64 ((c:Int) + (IntKind.wrap .u64 ((IntKind.wrap .u64 (x:Int)) * (IntKind.wrap .u64 (rdL (0:Int) b (j:Int))))))),((j:Int),(a,(n,(i',(((row.length:Nat):Int),(j:Int)))))))))))) else none) else some (b,(out,(i,((x:Int),(row,((c:Int),((j:Int),(a,(n,(i',(((row.length:Nat):Int),(j:Int)))))))))))))
   = some (b,(out,(i,((x:Int),(row,(((c + x * hdI (b.drop j):Nat):Int),((j:Int),(a,(n,(i',(((row.length:Nat):Int),(j:Int))))))))))))  := by
   by_cases hj:j < b.length
   ·rw [dt' (by omega),dt' (by omega),rd_hd hb hj]
    simp only [cond_true]
    rw [u64n (by omega),u64n (by omega),← Int.natCast_mul,u64n (by omega),← Int.natCast_add,u64n (by omega)]
   ·rw [df' (by omega),List.drop_eq_nil_of_le (by omega)]
    simp [hdI]
  rw [first]
  simp only [Option.bind_some]
  rw [dt' (by omega),rd_hd hr (by omega),u64n (n:=hdI (row.drop j)) (by omega),← Int.natCast_add,u64n (by omega),u32n,shr32,wrap64 (by omega) (by omega)]
  simp only [cond_true]
  have et:c + x * hdI (b.drop j) + hdI (row.drop j)=x * hdI (b.drop j) + hdI (row.drop j) + c:=by omega
  rw [et]
  generalize hg:x * hdI (b.drop j) + hdI (row.drop j) + c=g
  have hgl:g / 4294967296 < 4294967296:=by omega
  have hr':Lb (row.set j ((g % 4294967296:Nat):Int)):=fun y hy=>by
   rcases List.mem_or_eq_of_mem_set hy with hy | rfl
   ·exact hr y hy
   ·omega
  have ih:=mul_l0 hb out a i n i' hx m (j + 1) (row.set j ((g % 4294967296:Nat):Int)) (g / 4294967296) hr' (by rw [List.length_set];omega) hgl (by rw [List.length_set];exact hl)
  rw [List.length_set,set_take (by omega),set_drop] at ih
  rw [show ((j:Int) + 1)=((j + 1:Nat):Int) by omega,show Int.toNat (j:Int)=j by omega,ih,mulL,List.tail_drop,List.tail_drop,hg,List.append_assoc]
  rfl
end Go.Proofs.YtlfcdmibknmjeaaGreatDoor.E
end
section
namespace Go.Proofs.YtlfcdmibknmjeaaGreatDoor.E
open Go Go.Proofs.YtlfcdmibknmjeaaGreatDoor.Ev
set_option linter.unusedSimpArgs false
theorem split3 (out:List Int) (i k:Nat):out=out.take i ++ ((out.drop i).take k ++ out.drop (i + k)):=by
 rw [← List.drop_drop,List.take_append_drop,List.take_append_drop]
theorem val_split3 {out:List Int} {i k:Nat} (h:i + k ≤ out.length):val out=val (out.take i) + 4294967296 ^ i * (val ((out.drop i).take k) + 4294967296 ^ k * val (out.drop (i + k))):=by
 conv=>lhs;rw [split3 out i k]
 rw [val_app,val_app,List.length_take,List.length_take,List.length_drop,Nat.min_eq_left (by omega),Nat.min_eq_left (by omega)]
theorem mul_arith {B pi pb x vb va vo mid rest vr w:Nat} (hP:0 < pi) (hb0:vb < pb) (ta:va < pi) (hx:x < B) (hv:w=va * vb) (s3:w=vo + pi * (mid + pb * B * rest))
 (hrv:vr=(x * vb + mid + 0) % (pb * B)):vo + pi * (vr + pb * B * rest)=(va + pi * x) * vb:=by
 have hsm:mid + pb * B * rest < pb:=by
  have h1:pi * (mid + pb * B * rest) < pi * pb:=by
   have h2:va * vb < pi * pb:=by
    rcases Nat.eq_zero_or_pos vb with hz | hz
    ·rw [hz];exact Nat.mul_pos hP (by omega)
    ·exact Nat.lt_of_lt_of_le (Nat.mul_lt_mul_of_pos_right ta hz) (Nat.mul_le_mul_left _ (Nat.le_of_lt hb0))
   omega
  exact Nat.lt_of_mul_lt_mul_left h1
 have hr0:rest=0:=by
  rcases Nat.eq_zero_or_pos rest with hz | hz
  ·exact hz
  ·have h3:=Nat.mul_le_mul_left (pb * B) (show 1 ≤ rest from hz)
   have h4:=Nat.mul_le_mul_left pb (show 1 ≤ B by omega)
   omega
 subst hr0
 have hrv:vr=x * vb + mid:=by
  rw [hrv,Nat.add_zero,Nat.mod_eq_of_lt]
  have h1:x * vb ≤ x * pb:=Nat.mul_le_mul_left x (Nat.le_of_lt hb0)
  have h2:pb * (x + 1) ≤ pb * B:=Nat.mul_le_mul_left pb hx
  rw [Nat.mul_add,Nat.mul_comm pb x] at h2
  omega
 rw [hrv,Nat.add_mul,← hv,s3]
 simp only [Nat.mul_zero,Nat.add_zero]
 rw [Nat.mul_add,Nat.mul_assoc]
 omega
theorem mul_num {a b out row':List Int} {i x:Nat} (ha:Lb a) (hb:Lb b) (hi:i < a.length) (hl:out.length=a.length + b.length) (hx:x < 4294967296) (hxx:hdI (a.drop i)=x) (hv:val out=val (a.take i) * val b)
 (hrow':mulL (b.length + 1) b ((out.drop i).take (b.length + 1)) x 0=row'):val (out.take i ++ (row' ++ out.drop (i + (b.length + 1))))=val (a.take (i + 1)) * val b:=by
 have hl':row'.length=b.length + 1:=by rw [← hrow',mulL_len]
 have hik:i + (b.length + 1) ≤ out.length:=by omega
 have him:i ≤ out.length:=by omega
 have hia:i ≤ a.length:=Nat.le_of_lt hi
 have hP:0 < 4294967296 ^ i:=Nat.pow_pos (by omega)
 have hb0:=val_lt hb
 have s3:=val_split3 (out:=out) (i:=i) (k:=b.length + 1) hik
 have ta:=val_lt (ha.take i)
 rw [List.length_take,Nat.min_eq_left hia] at ta
 have hrv:=val_mulL (b.length + 1) b ((out.drop i).take (b.length + 1)) x 0
 rw [hrow'] at hrv
 have hxa:val (a.take (i + 1))=val (a.take i) + 4294967296 ^ i * x:=by
  rw [val_snoc hi,rd_hd ha hi,hxx,Int.toNat_natCast]
 rw [val_app,val_app,List.length_take,Nat.min_eq_left him,hl',hxa]
 rw [Nat.pow_succ] at s3 hrv ⊢
 exact mul_arith hP hb0 ta hx hv s3 hrv
theorem mul_l1 {a b:List Int} (ha:Lb a) (hb:Lb b) (hs:a.length + b.length ≤ 2147483648):∀ (m i:Nat) (out:List Int),Lb out→m + i=a.length→out.length=a.length + b.length→val out=val (a.take i) * val b →
 ∃ r,zA.V1 b out a ((a.length:Nat):Int) (i:Int)=some r∧Lb r∧r.length=a.length + b.length∧val r=val a * val b
 | 0,i,out,ho,h,hl,hv=>by
  refine ⟨out,zA.v1 _ _ _ _ _ ?_,ho,hl,?_⟩
  ·unfold zA.b1
   rw [df' (by omega)]
   rfl
  ·rw [hv,List.take_of_length_le (by omega)]
 | m + 1,i,out,ho,h,hl,hv=>by
  have hi:i < a.length:=by omega
  have hx:=hdI_lt (ha.drop i)
  generalize hxx:hdI (a.drop i)=x at hx
  have hw:IntKind.wrap .i64 (((b.length:Nat):Int) + 1)=((b.length + 1:Nat):Int):=by rw [wrap64 (by omega) (by omega)];omega
  have erow:copyL (List.drop (Int.toNat (i:Int)) (List.take (Int.toNat (i:Int) + Int.toNat (((out.length:Nat):Int) - (i:Int))) out)) (List.replicate (Int.toNat ((b.length + 1:Nat):Int)) 0)=(out.drop i).take (b.length + 1):=by
   rw [show Int.toNat (i:Int)=i by omega,show i + Int.toNat (((out.length:Nat):Int) - (i:Int))=out.length by omega,List.take_length,show Int.toNat ((b.length + 1:Nat):Int)=b.length + 1 by omega]
   unfold copyL
   rw [List.length_replicate,show (List.replicate (b.length + 1) (0:Int)).drop (out.drop i).length=[] from List.drop_eq_nil_of_le (by rw [List.length_replicate,List.length_drop];omega),List.append_nil]
  have hrl:((out.drop i).take (b.length + 1)).length=b.length + 1:=by rw [List.length_take,List.length_drop];omega
  have hin:=mul_l0 hb out a (i:Int) ((a.length:Nat):Int) (i:Int) hx (b.length + 1) 0 ((out.drop i).take (b.length + 1)) 0 ((ho.drop i).take _) (by omega) (by omega) (by omega)
  rw [List.take_zero,List.nil_append,List.drop_zero,List.drop_zero] at hin
  generalize hrow':mulL (b.length + 1) b ((out.drop i).take (b.length + 1)) x 0=row' at hin
  have hl':row'.length=b.length + 1:=by rw [← hrow',mulL_len]
  have hlb':Lb row':=by rw [← hrow'];exact lb_mulL _ _ _ _ _
  have eout:copyAt i (out.length - i) row' out=out.take i ++ (row' ++ out.drop (i + (b.length + 1))):=by
   unfold copyAt
   rw [show row'.take (out.length - i)=row' from List.take_of_length_le (by omega),hl',List.append_assoc]
  rw [hrl] at hin
  have hov:=mul_num ha hb hi hl hx hxx hv hrow'
  obtain ⟨r,k1,k2,k3,k4⟩:=mul_l1 ha hb hs m (i + 1) (out.take i ++ (row' ++ out.drop (i + (b.length + 1)))) ((ho.take i).app (hlb'.app (ho.drop _))) (by omega) (by simp [hl'];omega) hov
  refine ⟨r,zA.v1 _ _ _ _ _ ?_,k2,k3,k4⟩
  unfold zA.b1
  rw [dt' (by omega),dt' (by omega),hw]
  rw [dt' (by omega),dt' (by omega),rd_hd ha hi,hxx]
  simp only [cond_true]
  rw [erow,hrl]
  rw [show zA.V0 b out (i:Int) (x:Int) ((out.drop i).take (b.length + 1)) 0 a ((a.length:Nat):Int) (i:Int) ((b.length + 1:Nat):Int) 0=_ from hin]
  simp only [Option.bind_some]
  rw [dt' (by omega),wrap64 (by omega) (by omega),show ((i:Int) + 1)=((i + 1:Nat):Int) by omega,show Int.toNat (i:Int)=i by omega,show Int.toNat (((out.length:Nat):Int) - (i:Int))=out.length - i by omega,eout]
  exact k1
theorem mul_v {a b:List Int} (ha:Lb a) (hb:Lb b) (sa:Sz a) (sb:Sz b):zA.V a b=some (limbs (val a * val b)):=by
 refine zA.v _ _ ?_
 unfold zA.b
 have la:(limbs (val a)).length ≤ a.length:=used_le ha
 have lb:(limbs (val b)).length ≤ b.length:=used_le hb
 rw [trim_v ha sa.far,trim_v hb sb.far]
 unfold Sz at sa sb
 simp only [Option.bind_some]
 rw [wrap64 (by omega) (by omega),dt' (by omega)]
 simp only [cond_true]
 rw [show Int.toNat ((((limbs (val a)).length:Nat):Int) + (((limbs (val b)).length:Nat):Int))=(limbs (val a)).length + (limbs (val b)).length by omega]
 obtain ⟨r,k1,k2,k3,k4⟩:=mul_l1 (lb_limbs (val a)) (lb_limbs (val b)) (by omega) (limbs (val a)).length 0 (List.replicate ((limbs (val a)).length + (limbs (val b)).length) 0) (Lb.zeros _) (by omega) (by rw [List.length_replicate]) (by rw [val_zeros];simp [val])
 rw [show zA.V1 (limbs (val b)) _ (limbs (val a)) (((limbs (val a)).length:Nat):Int) 0=_ from k1]
 simp only [Option.bind_some]
 rw [trim_v k2 (by omega),k4,val_limbs,val_limbs]
 rfl
theorem small_v {a:List Int} (ha:Lb a) (sa:Sz a) {v:Nat} (hv:v < 4294967296):yO.V a (v:Int)=some (limbs (val a * v)):=by
 refine yO.v _ _ ?_
 unfold yO.b
 rw [mul_v ha (b:=[(v:Int)]) (.cons (by omega) .nil) sa (by unfold Sz;simp)]
 simp [val]
end Go.Proofs.YtlfcdmibknmjeaaGreatDoor.E
end
section
namespace Go.Proofs.YtlfcdmibknmjeaaGreatDoor.E
open Go Go.Proofs.YtlfcdmibknmjeaaGreatDoor.Ev
set_option linter.unusedSimpArgs false
theorem pack {h l:Nat} (hh:h < 4294967296) (hl:l < 4294967296):bor .u64 (shlI .u64 (h:Int) 32) (l:Int)=((4294967296 * h + l:Nat):Int):=by
 have e:shlI .u64 (h:Int) 32=((4294967296 * h:Nat):Int):=by
  show IntKind.wrap .u64 ((h:Int) * 4294967296)=_
  rw [IntKind.wrap_u64];omega
 rw [e]
 show IntKind.wrap .u64 (((BitVec.ofInt 64 ((4294967296 * h:Nat):Int) ||| BitVec.ofInt 64 (l:Int)).toNat:Nat):Int)=_
 rw [BitVec.ofInt_natCast,BitVec.ofInt_natCast,BitVec.toNat_or,BitVec.toNat_ofNat,BitVec.toNat_ofNat,Nat.mod_eq_of_lt (by omega),Nat.mod_eq_of_lt (by omega)]
 have h2:=Nat.two_pow_add_eq_or_of_lt (i:=32) (b:=l) hl h
 simp only [Nat.reducePow] at h2
 rw [← h2,IntKind.wrap_u64]
 omega
theorem div32_is {h l v:Nat} (hh:h < v) (hv:v < 4294967296) (hl:l < 4294967296):yR.f (h:Int) (l:Int) (v:Int)=some ((((4294967296 * h + l) / v:Nat):Int),(((4294967296 * h + l) % v:Nat):Int)):=by
 unfold yR.f
 have hv0:((v:Int) != 0)=true:=by
  rw [bne_iff_ne];omega
 have hq:(4294967296 * h + l) / v < 4294967296:=Nat.div_lt_of_lt_mul (by omega)
 have hr:(4294967296 * h + l) % v < v:=Nat.mod_lt _ (by omega)
 rw [hv0,df' (by omega)]
 simp only [cond_true,cond_false,Option.bind_some]
 rw [u64n (by omega),u64n (by omega),u64n (by omega),df' (by omega)]
 simp only [cond_false]
 rw [pack (by omega) hl,Int.tdiv_eq_ediv_of_nonneg (Int.natCast_nonneg _),Int.tmod_eq_emod_of_nonneg (Int.natCast_nonneg _),← Int.natCast_ediv,← Int.natCast_emod,u64n (by omega),u32n,u32n,Nat.mod_eq_of_lt hq,Nat.mod_eq_of_lt (Nat.lt_trans hr hv)]
theorem small_arith {B P vt d r v qd r2 rest:Nat} (h:qd * v + r2=B * r + d):vt + P * ((qd + B * rest) * v + r2)=vt + P * d + P * B * (rest * v + r):=by
 have e:(qd + B * rest) * v + r2=d + B * (rest * v + r):=by
  rw [Nat.add_mul,Nat.mul_add,Nat.mul_assoc];omega
 rw [e,Nat.mul_add,Nat.mul_assoc,Nat.add_assoc]
theorem qsmall_l {v:Nat} (hv:v < 4294967296):∀ (n r:Nat) (q:List Int),Lb q→n ≤ q.length→q.length ≤ 4294967296→r < v →
 ∃ (r':Nat) (q':List Int),zS.V0 (v:Int) (r:Int) q ((n:Int) - 1)=some ((r':Int),q')∧Lb q'∧q'.length=q.length∧r' < v∧val q' * v + r'=val (q.take n) + 4294967296 ^ n * (val (q.drop n) * v + r)
 | 0,r,q,hq,_,_,hr=>by
  refine ⟨r,q,zS.v0 _ _ _ _ ?_,hq,rfl,hr,?_⟩
  ·unfold zS.b0
   rw [df' (by omega)]
   rfl
  ·rw [List.take_zero,List.drop_zero,Nat.pow_zero,Nat.one_mul]
   simp [val]
 | n + 1,r,q,hq,hn,hs,hr=>by
  have hn':n < q.length:=by omega
  have hd:=hdI_lt (hq.drop n)
  have hval:val (q.take (n + 1))=val (q.take n) + 4294967296 ^ n * hdI (q.drop n):=by
   rw [val_snoc hn',rd_hd hq hn',Int.toNat_natCast]
  generalize hdd:hdI (q.drop n)=d at hd hval
  have hqd:(4294967296 * r + d) / v < 4294967296:=Nat.div_lt_of_lt_mul (by omega)
  have hr2:(4294967296 * r + d) % v < v:=Nat.mod_lt _ (by omega)
  have hdm:=Nat.div_add_mod' (4294967296 * r + d) v
  have hdv:=div32_is hr hv hd
  generalize (4294967296 * r + d) / v=qd at hqd hdm hdv
  generalize (4294967296 * r + d) % v=r2 at hr2 hdm hdv
  have hq2:Lb (q.set n (qd:Int)):=fun x hx=>by
   rcases List.mem_or_eq_of_mem_set hx with h | h
   ·exact hq x h
   ·omega
  obtain ⟨r',q',k1,k2,k3,k4,k5⟩:=qsmall_l hv n r2 (q.set n (qd:Int)) hq2 (by rw [List.length_set];omega) (by rw [List.length_set];omega) hr2
  refine ⟨r',q',zS.v0 _ _ _ _ ?_,k2,by rw [k3,List.length_set],k4,?_⟩
  ·unfold zS.b0
   rw [show (((n + 1:Nat):Int) - 1)=(n:Int) by omega,dt' (by omega),dt' (by omega),rd_hd hq hn',hdd]
   simp only [cond_true]
   rw [hdv]
   simp only [Option.bind_some]
   rw [Int.toNat_natCast,wrap64 (by omega) (by omega)]
   exact k1
  ·rw [k5,hval,Nat.pow_succ]
   have e1:(q.set n (qd:Int)).take n=q.take n:=List.take_set_of_le (Nat.le_refl n)
   have e2:(q.set n (qd:Int)).drop n=(qd:Int) :: q.drop (n + 1):=by
    rw [List.drop_eq_getElem_cons (by rw [List.length_set];exact hn'),List.getElem_set_self,set_drop]
   rw [e1,e2,val,Int.toNat_natCast]
   exact small_arith hdm
theorem qsmall_v {a:List Int} (ha:Lb a) (sa:Sz a) {v:Nat} (h0:0 < v) (hv:v < 4294967296):zS.V a (v:Int)=some (Sum.inr (limbs (val a / v),((val a % v:Nat):Int),true)):=by
 refine zS.v _ _ ?_
 unfold zS.b
 have la:(limbs (val a)).length ≤ a.length:=used_le ha
 have sa':=sa
 unfold Sz at sa'
 rw [show ((v:Int) == 0)=false by rw [beq_eq_false_iff_ne];omega,trim_v ha sa.far]
 simp only [cond_false,Option.bind_some]
 rw [wrap64 (by omega) (by omega)]
 obtain ⟨r',q',k1,k2,k3,k4,k5⟩:=qsmall_l hv (limbs (val a)).length 0 (limbs (val a)) (lb_limbs _) (Nat.le_refl _) (by omega) h0
 rw [show zS.V0 (v:Int) 0 (limbs (val a)) ((((limbs (val a)).length:Nat):Int) - 1)=_ from k1]
 simp only [Option.bind_some]
 rw [trim_v k2 (by omega)]
 rw [List.take_length,List.drop_length,val_limbs] at k5
 have k6:val q' * v + r'=val a:=by rw [k5];simp [val]
 have hm:val a % v=r':=by rw [← k6,Nat.mul_comm,Nat.mul_add_mod,Nat.mod_eq_of_lt k4]
 have hdq:val a / v=val q':=by rw [← k6,Nat.mul_comm,Nat.mul_add_div h0,Nat.div_eq_of_lt k4,Nat.add_zero]
 rw [hm,hdq]
 rfl
end Go.Proofs.YtlfcdmibknmjeaaGreatDoor.E
end
section
namespace Go.Proofs.YtlfcdmibknmjeaaGreatDoor.E
open Go Go.Proofs.YtlfcdmibknmjeaaGreatDoor.Ev
set_option linter.unusedSimpArgs false
theorem pow32 (n:Nat):2 ^ n=4294967296 ^ (n / 32) * 2 ^ (n % 32):=by
 conv=>lhs;rw [← Nat.div_add_mod n 32,Nat.pow_add,Nat.pow_mul]
theorem tdiv32 (n:Nat) (h:n ≤ 1073741824):IntKind.wrap .i64 (Int.tdiv (n:Int) 32)=((n / 32:Nat):Int):=by
 rw [Int.tdiv_eq_ediv_of_nonneg (Int.natCast_nonneg _),wrap64 (by omega) (by omega)]
 omega
theorem tmod32 (n:Nat):Int.tmod (n:Int) 32=((n % 32:Nat):Int):=by
 rw [Int.tmod_eq_emod_of_nonneg (Int.natCast_nonneg _)]
 omega
theorem shl1:∀ m:Nat,m < 32→shlI .u32 1 (m:Int)=((2 ^ m:Nat):Int):=by decide
theorem up_arith {B P Q L va:Nat}:(0 + P * (va + L * (0 + B * 0))) * Q=va * (P * Q):=by
 rw [Nat.mul_zero,Nat.zero_add,Nat.zero_add,Nat.mul_zero,Nat.add_zero,Nat.mul_comm P va,Nat.mul_assoc]
theorem up_v {a:List Int} (ha:Lb a) (sa:a.length ≤ 1073740000) {n:Nat} (hn:n ≤ 8192):xL.V a (n:Int)=some (limbs (val a * 2 ^ n)):=by
 refine xL.v _ _ ?_
 unfold xL.b
 rw [tdiv32 n (by omega),tmod32,show IntKind.wrap .i64 (IntKind.wrap .i64 (((n / 32:Nat):Int) + ((a.length:Nat):Int)) + 1)=((n / 32 + a.length + 1:Nat):Int) by
  rw [show IntKind.wrap .i64 (((n / 32:Nat):Int) + ((a.length:Nat):Int))=((n / 32:Nat):Int) + ((a.length:Nat):Int) from wrap64 (by omega) (by omega),wrap64 (by omega) (by omega)];omega]
 rw [dt' (by omega),Int.toNat_natCast,List.length_replicate,dt' (by omega),df' (by omega),shl1 _ (Nat.mod_lt _ (by omega)),Int.toNat_natCast,show Int.toNat (((n / 32 + a.length + 1:Nat):Int) - ((n / 32:Nat):Int))=a.length + 1 by omega]
 simp only [cond_true,cond_false]
 have ec:copyAt (n / 32) (a.length + 1) a (List.replicate (n / 32 + a.length + 1) 0)=List.replicate (n / 32) 0 ++ (a ++ [0]):=by
  unfold copyAt
  rw [show a.take (a.length + 1)=a from List.take_of_length_le (by omega),List.take_replicate,List.drop_replicate,Nat.min_eq_left (by omega),show n / 32 + a.length + 1 - (n / 32 + a.length)=1 by omega,List.append_assoc]
  rfl
 rw [ec,small_v ((Lb.zeros _).app (ha.app (.cons (by omega) .nil))) (by unfold Sz;simp;omega) (Nat.pow_lt_pow_right (a:=2) (m:=n % 32) (n:=32) (by omega) (Nat.mod_lt _ (by omega)))]
 rw [Option.bind_some,val_app,val_app,val_zeros,List.length_replicate,pow32 n,val,val]
 rw [Int.toNat_zero,up_arith]
def shrL (s:Nat):List Int→List Int
 | []=>[]
 | x :: xs=>(((4294967296 * hdI xs + x.toNat) / 2 ^ s % 4294967296:Nat):Int) :: shrL s xs
theorem shrL_len (s:Nat):∀ a,(shrL s a).length=a.length
 | []=>rfl
 | _ :: xs=>by rw [shrL,List.length_cons,List.length_cons,shrL_len]
theorem lb_shrL (s:Nat):∀ a,Lb (shrL s a)
 | []=>.nil
 | _ :: xs=>.cons (by omega) (lb_shrL s xs)
theorem shr_arith {B S C x h T V:Nat} (hS:0 < S) (hB:B=S * C) (hx:x < B) (hV:V=h + B * T):(B * h + x) / S % B + B * (V / S)=(x + B * V) / S:=by
 subst hB
 have e1:∀ y,(S * C * y + x) / S=C * y + x / S:=fun y=>by rw [Nat.mul_assoc,Nat.mul_add_div hS]
 rw [Nat.add_comm x,e1,e1]
 have hxs:x / S < C:=Nat.div_lt_of_lt_mul hx
 have hm:V % S=h % S:=by rw [hV,Nat.mul_assoc,Nat.add_mul_mod_self_left]
 have eh:C * h=S * C * (h / S) + C * (h % S):=by
  conv=>lhs;rw [← Nat.div_add_mod h S]
  rw [Nat.mul_add,← Nat.mul_assoc,Nat.mul_comm C S]
 have eV:C * V=S * C * (V / S) + C * (V % S):=by
  conv=>lhs;rw [← Nat.div_add_mod V S]
  rw [Nat.mul_add,← Nat.mul_assoc,Nat.mul_comm C S]
 have hlt:C * (h % S) + x / S < S * C:=by
  have h1:C * (h % S + 1) ≤ C * S:=Nat.mul_le_mul_left C (Nat.mod_lt h hS)
  rw [Nat.mul_add,Nat.mul_one,Nat.mul_comm C S] at h1
  omega
 rw [eh,eV,hm,Nat.add_assoc,Nat.mul_add_mod,Nat.mod_eq_of_lt hlt]
 omega
theorem val_shrL {s:Nat} (hs:s < 32):∀ {a:List Int},Lb a→val (shrL s a)=val a / 2 ^ s
 | [],_=>by rw [shrL,val,Nat.zero_div]
 | x :: xs,h=>by
  have hB:4294967296=2 ^ s * 2 ^ (32 - s):=by rw [← Nat.pow_add,show s + (32 - s)=32 by omega]
  have hx:=h.hd
  rw [shrL,val,val,Int.toNat_natCast,val_shrL hs h.tl]
  exact shr_arith (Nat.pow_pos (by omega)) hB (by omega) (val_hd xs)
theorem shr_is {s:Nat} (hs:s < 32) (n:Nat):shrI .u64 (n:Int) (s:Int)=((n / 2 ^ s:Nat):Int):=by
 unfold shrI
 rw [show min (Int.toNat (s:Int)) (IntKind.bits .u64)=s by
  show min (Int.toNat (s:Int)) 64=s
  omega]
 rw [show (2:Int) ^ s=((2 ^ s:Nat):Int) by rw [Int.natCast_pow];rfl,Int.fdiv_eq_ediv_of_nonneg _ (Int.natCast_nonneg _),← Int.natCast_ediv]
theorem down_l {n:Nat}:∀ (m i:Nat) (q:List Int),Lb q→m + i=q.length→q.length ≤ 4294967296 →
 ya.V0 (n:Int) q ((q.length:Nat):Int) (i:Int)=some (q.take i ++ shrL (n % 32) (q.drop i))
 | 0,i,q,hq,h,hs=>by
  refine ya.v0 _ _ _ _ ?_
  unfold ya.b0
  rw [df' (by omega),List.drop_eq_nil_of_le (by omega),List.take_of_length_le (by omega),shrL,List.append_nil]
  rfl
 | m + 1,i,q,hq,h,hs=>by
  have hi:i < q.length:=by omega
  have hnx:(bif (decide (IntKind.wrap .i64 ((i:Int) + 1) < ((q.length:Nat):Int))) then (bif (decide ((0:Int) ≤ IntKind.wrap .i64 ((i:Int) + 1)∧IntKind.wrap .i64 ((i:Int) + 1) < ((q.length:Nat):Int))) then (some ((n:Int),(q,((i:Int),((IntKind.wrap .u64 (rdL (0:Int) q (IntKind.wrap .i64 ((i:Int) + 1)))),(((q.length:Nat):Int),(i:Int))))))) else none) else (some ((n:Int),(q,((i:Int),((0:Int),(((q.length:Nat):Int),(i:Int))))))))=some ((n:Int),(q,((i:Int),(((hdI (q.drop (i + 1)):Nat):Int),(((q.length:Nat):Int),(i:Int)))))):=by
   rw [wrap64 (by omega) (by omega),show ((i:Int) + 1)=((i + 1:Nat):Int) by omega]
   by_cases hc:i + 1 < q.length
   ·have hlt:=hdI_lt (hq.drop (i + 1))
    rw [dt' (by omega),dt' (by omega),rd_hd hq hc,u64n (by omega)]
    rfl
   ·rw [df' (by omega),List.drop_eq_nil_of_le (by omega)]
    rfl
  have h1:=hdI_lt (hq.drop (i + 1))
  have h0:=hdI_lt (hq.drop i)
  have hdr:q.drop i=((hdI (q.drop i):Nat):Int) :: q.drop (i + 1):=by
   rw [← rd_hd hq hi,List.drop_eq_getElem_cons hi]
   simp [rdL,List.getD_eq_getElem?_getD,List.getElem?_eq_getElem hi]
  have hsh:shrL (n % 32) (q.drop i)=(((4294967296 * hdI (q.drop (i + 1)) + hdI (q.drop i)) / 2 ^ (n % 32) % 4294967296:Nat):Int) :: shrL (n % 32) (q.drop (i + 1)):=by
   conv=>lhs;rw [hdr]
   rw [shrL,Int.toNat_natCast]
  rw [hsh]
  refine ya.v0 _ _ _ _ ?_
  unfold ya.b0
  rw [dt' (by omega),hnx]
  simp only [cond_true,Option.bind_some]
  rw [dt' (by omega),tmod32,df' (by omega),rd_hd hq hi]
  simp only [cond_true,cond_false]
  rw [u64n (n:=hdI (q.drop i)) (by omega),pack h1 h0,shr_is (Nat.mod_lt _ (by omega)),u32n,Int.toNat_natCast,wrap64 (by omega) (by omega)]
  generalize hD:(4294967296 * hdI (q.drop (i + 1)) + hdI (q.drop i)) / 2 ^ (n % 32) % 4294967296=d
  have hd:d < 4294967296:=by rw [← hD];exact Nat.mod_lt _ (by omega)
  have hq2:Lb (q.set i (d:Int)):=fun x hx=>by
   rcases List.mem_or_eq_of_mem_set hx with h | h
   ·exact hq x h
   ·omega
  have k1:=down_l (n:=n) m (i + 1) (q.set i (d:Int)) hq2 (by rw [List.length_set];omega) (by rw [List.length_set];omega)
  rw [List.length_set,set_take hi,set_drop,List.append_assoc] at k1
  exact k1
theorem down_v {a:List Int} (ha:Lb a) (sa:Sz a) {n:Nat} (hn:n ≤ 1073741824):ya.V a (n:Int)=some (limbs (val a / 2 ^ n)):=by
 refine ya.v _ _ ?_
 unfold ya.b
 have sa':=sa
 unfold Sz at sa'
 rw [tdiv32 n hn]
 have e2:val a / 2 ^ n=val (a.drop (n / 32)) / 2 ^ (n % 32):=by
  rw [pow32 n,← Nat.div_div_eq_div_mul]
  congr 1
  by_cases hc:n / 32 ≤ a.length
  ·conv=>lhs;rw [← List.take_append_drop (n / 32) a,val_app,List.length_take,Nat.min_eq_left hc]
   have ht:=val_lt (ha.take (n / 32))
   rw [List.length_take,Nat.min_eq_left hc] at ht
   rw [Nat.add_mul_div_left _ _ (Nat.pow_pos (by omega)),Nat.div_eq_of_lt ht,Nat.zero_add]
  ·rw [List.drop_eq_nil_of_le (by omega),val]
   exact Nat.div_eq_of_lt (Nat.lt_of_lt_of_le (val_lt ha) (pow_mono (by omega)))
 by_cases hc:a.length ≤ n / 32
 ·rw [dt' (by omega),e2,List.drop_eq_nil_of_le hc,val,Nat.zero_div,limbs_zero]
  rfl
 ·rw [df' (by omega),dt' (by omega),Int.toNat_natCast,trim_v (ha.drop _) (by rw [List.length_drop];omega)]
  simp only [cond_true,cond_false,Option.bind_some]
  have lq:(limbs (val (a.drop (n / 32)))).length ≤ (a.drop (n / 32)).length:=used_le (ha.drop _)
  rw [List.length_drop] at lq
  have k1:=down_l (n:=n) (limbs (val (a.drop (n / 32)))).length 0 (limbs (val (a.drop (n / 32)))) (lb_limbs _) (by omega) (by omega)
  rw [List.take_zero,List.drop_zero,List.nil_append] at k1
  rw [show ya.V0 (n:Int) (limbs (val (a.drop (n / 32)))) (((limbs (val (a.drop (n / 32)))).length:Nat):Int) 0=_ from k1]
  simp only [Option.bind_some]
  rw [trim_v (lb_shrL _ _) (by rw [shrL_len];omega),val_shrL (Nat.mod_lt _ (by omega)) (lb_limbs _),val_limbs,e2]
  rfl
end Go.Proofs.YtlfcdmibknmjeaaGreatDoor.E
end
section
namespace Go.Proofs.YtlfcdmibknmjeaaGreatDoor.E
open Go Go.Proofs.YtlfcdmibknmjeaaGreatDoor.Ev
set_option linter.unusedSimpArgs false
theorem shift_v {a:List Int} (ha:Lb a) (sa:a.length ≤ 1073740000) (n:Int):xg.V a n=some (limbs (if 0 ≤ n then val a * 2 ^ (min n.toNat 8192) else if n < -8192 then 0 else val a / 2 ^ (-n).toNat)):=by
 refine xg.v _ _ ?_
 unfold xg.b
 by_cases h:0 ≤ n
 ·rw [dt' (by omega),if_pos h,show mnI n 8192=((min n.toNat 8192:Nat):Int) by unfold mnI;split <;> omega,up_v ha sa (by omega)]
  rfl
 ·rw [df' (by omega),if_neg h]
  by_cases h2:n < -8192
  ·rw [dt' (by omega),if_pos h2,limbs_zero]
   rfl
  ·rw [df' (by omega),if_neg h2,wrap64 (by omega) (by omega),show (0:Int) - n=(((-n).toNat:Nat):Int) by omega,down_v ha (by unfold Sz;omega) (by omega)]
   rfl
def bitN (n:Nat):Nat:=if n=0 then 0 else n.log2 + 1
theorem bitN_le (n k:Nat):bitN n ≤ k ↔ n < 2 ^ k:=by
 unfold bitN
 split
 ·next h=>subst h;exact ⟨fun _=>Nat.pow_pos (by omega),fun _=>Nat.zero_le _⟩
 ·next h=>rw [← Nat.log2_lt h];omega
theorem bitN_div {n k:Nat} (h:2 ^ k ≤ n):bitN n=k + bitN (n / 2 ^ k):=by
 have key:∀ j,bitN (n / 2 ^ k) ≤ j ↔ bitN n ≤ k + j:=fun j=>by
  rw [bitN_le,bitN_le,Nat.div_lt_iff_lt_mul (Nat.pow_pos (by omega)),← Nat.pow_add,Nat.add_comm j k]
 have h1:=(key _).1 (Nat.le_refl _)
 have h2:¬ bitN n ≤ k:=by rw [bitN_le];omega
 have h3:=(key (bitN n - k)).2 (by omega)
 omega
theorem len32_tab:∃ t:ByteArray,(t.size=256∧∀ n:Nat,n < 256→bAt t (n:Int)=((bitN n:Nat):Int))∧∀ a0:Int,yJ.f a0=(Option.bind (bif (decide (a0 ≥ (65536:Int))) then (some ((shrI .u32 a0 (16:Int)),(16:Int))) else (some (a0,(0:Int)))) fun y1=>(Option.bind (bif (decide (y1.1 ≥ (256:Int))) then (some ((shrI .u32 y1.1 (8:Int)),(IntKind.wrap .i64 (y1.2 + (8:Int))))) else (some (y1.1,y1.2))) fun y2=>(bif (decide (((0:Int) ≤ (IntKind.wrap .u8 y2.1))∧((IntKind.wrap .u8 y2.1) < ((t.size:Nat):Int)))) then (some (IntKind.wrap .i64 (y2.2 + (IntKind.wrap .i64 (bAt t (IntKind.wrap .u8 y2.1)))))) else none))):=by
 refine ⟨?t,?a,fun a0=>?b⟩
 case b =>
  unfold yJ.f
  rfl
 case a=>exact ⟨by decide +kernel,by decide +kernel⟩
theorem len32_is {n:Nat} (h:n < 4294967296):yJ.f (n:Int)=some ((bitN n:Nat):Int):=by
 obtain ⟨t,⟨t1,t2⟩,t3⟩:=len32_tab
 rw [t3,t1]
 clear t3 t1
 have s16:shrI .u32 (n:Int) 16=((n / 65536:Nat):Int):=by
  unfold shrI
  rw [Int.fdiv_eq_ediv_of_nonneg _ (by decide)]
  rfl
 have s8:∀ m:Nat,shrI .u32 (m:Int) 8=((m / 256:Nat):Int):=fun m=>by
  unfold shrI
  rw [Int.fdiv_eq_ediv_of_nonneg _ (by decide)]
  rfl
 have b8:∀ m,m < 256→bitN m ≤ 8:=fun m hm=>(bitN_le m 8).2 hm
 have fin:∀ (m c:Nat),m < 256→c ≤ 24→(bif (decide ((0:Int) ≤ IntKind.wrap .u8 (m:Int)∧IntKind.wrap .u8 (m:Int) < ((256:Nat):Int))) then (some (IntKind.wrap .i64 ((c:Int) + IntKind.wrap .i64 (bAt t (IntKind.wrap .u8 (m:Int)))))) else none)=some (((c + bitN m:Nat)):Int):=fun m c hm hc=>by
  have hb:=b8 m hm
  rw [show IntKind.wrap .u8 (m:Int)=(m:Int) by rw [IntKind.wrap_u8];omega,dt' (by omega),t2 m hm,wrap64 (n:=((bitN m:Nat):Int)) (by omega) (by omega),wrap64 (by omega) (by omega)]
  simp only [cond_true]
  congr 1
 by_cases h1:65536 ≤ n
 ·rw [dt' (by omega),s16]
  simp only [cond_true,Option.bind_some]
  have e1:bitN n=16 + bitN (n / 65536):=bitN_div (k:=16) h1
  by_cases h2:256 ≤ n / 65536
  ·rw [dt' (by omega),s8]
   simp only [cond_true,Option.bind_some]
   have e2:bitN (n / 65536)=8 + bitN (n / 65536 / 256):=bitN_div (k:=8) h2
   rw [show IntKind.wrap .i64 ((16:Int) + 8)=((24:Nat):Int) from wrap64 (by omega) (by omega),fin _ 24 (by omega) (by omega),e1,e2,← Nat.add_assoc]
  ·rw [df' (by omega)]
   simp only [cond_false,Option.bind_some]
   rw [show (16:Int)=((16:Nat):Int) from rfl,fin _ 16 (by omega) (by omega),e1]
 ·rw [df' (by omega)]
  simp only [cond_false,Option.bind_some]
  by_cases h2:256 ≤ n
  ·rw [dt' (by omega),s8]
   simp only [cond_true,Option.bind_some]
   have e2:bitN n=8 + bitN (n / 256):=bitN_div (k:=8) h2
   rw [show IntKind.wrap .i64 ((0:Int) + 8)=((8:Nat):Int) from wrap64 (by omega) (by omega),fin _ 8 (by omega) (by omega),e2]
  ·rw [df' (by omega)]
   simp only [cond_false,Option.bind_some]
   rw [show (0:Int)=((0:Nat):Int) from rfl]
   have hf:=fin n 0 (by omega) (by omega)
   rw [Nat.zero_add] at hf
   exact hf
end Go.Proofs.YtlfcdmibknmjeaaGreatDoor.E
end
section
namespace Go.Proofs.YtlfcdmibknmjeaaGreatDoor.E
open Go Go.Proofs.YtlfcdmibknmjeaaGreatDoor.Ev
set_option linter.unusedSimpArgs false
theorem lead32_is {n:Nat} (h:n < 4294967296):yr.f (n:Int)=some (((32 - bitN n:Nat)):Int):=by
 unfold yr.f
 have hb:=(bitN_le n 32).2 h
 rw [len32_is h,Option.bind_some,wrap64 (by omega) (by omega)]
 congr 1
 omega
theorem pow_32 (k:Nat):2 ^ (32 * k)=4294967296 ^ k:=by rw [Nat.pow_mul]
theorem bits_v {a:List Int} (ha:Lb a) (sa:Sz a):xz.V a=some ((bitN (val a):Nat):Int):=by
 refine xz.v _ ?_
 unfold xz.b
 rw [used_v ha sa.far]
 have hu:=used_le ha
 have sa':=sa
 unfold Sz at sa'
 simp only [Option.bind_some]
 rcases Nat.eq_zero_or_pos (usedN a) with h0 | h0
 ·have hz:val a < 4294967296 ^ 0:=(limbs_len (val a) 0).1 (Nat.le_of_eq h0)
  rw [Nat.pow_zero] at hz
  rw [h0,show val a=0 by omega]
  rfl
 ·have ht:=take_used ha
  obtain ⟨u,hu1⟩:∃ u,usedN a=u + 1:=⟨usedN a - 1,by omega⟩
  have hv:=val_snoc (a:=a) (i:=u) (by omega)
  rw [← hu1,ht,val_limbs,rd_hd ha (by omega),Int.toNat_natCast] at hv
  have hl:=val_lt (ha.take u)
  rw [List.length_take,Nat.min_eq_left (by omega)] at hl
  have hge:4294967296 ^ u ≤ val a:=by
   have:=(limbs_len (val a) u).2
   have h2:¬ (limbs (val a)).length ≤ u:=by
    have h3:usedN a=(limbs (val a)).length:=rfl
    omega
   exact Nat.le_of_not_lt fun h=>h2 (this h)
  have hq:val a / 2 ^ (32 * u)=hdI (a.drop u):=by
   rw [pow_32,hv,Nat.add_mul_div_left _ _ (Nat.pow_pos (by omega)),Nat.div_eq_of_lt hl,Nat.zero_add]
  have hb:=bitN_div (n:=val a) (k:=32 * u) (by rw [pow_32];exact hge)
  rw [hq] at hb
  have hd:=hdI_lt (ha.drop u)
  have hb32:=(bitN_le _ 32).2 hd
  rw [hu1,hb,show (((u + 1:Nat):Int) == 0)=false by rw [beq_eq_false_iff_ne];omega,wrap64 (n:=(((u + 1:Nat):Int) - 1)) (by omega) (by omega),show (((u + 1:Nat):Int) - 1)=(u:Int) by omega,dt' (by omega),rd_hd ha (by omega),len32_is hd]
  simp only [cond_true,cond_false,Option.bind_some]
  rw [wrap64 (n:=(32:Int) * (u:Int)) (by omega) (by omega),wrap64 (by omega) (by omega)]
  congr 1
theorem val_div {a:List Int} (ha:Lb a) (k:Nat):val a / 4294967296 ^ k=val (a.drop k):=by
 by_cases hc:k ≤ a.length
 ·conv=>lhs;rw [← List.take_append_drop k a,val_app,List.length_take,Nat.min_eq_left hc]
  have ht:=val_lt (ha.take k)
  rw [List.length_take,Nat.min_eq_left hc] at ht
  rw [Nat.add_mul_div_left _ _ (Nat.pow_pos (by omega)),Nat.div_eq_of_lt ht,Nat.zero_add]
 ·rw [List.drop_eq_nil_of_le (by omega),val]
  exact Nat.div_eq_of_lt (Nat.lt_of_lt_of_le (val_lt ha) (pow_mono (by omega)))
theorem bit_arith {B S C h T:Nat} (hS:0 < S) (hB:B=S * (2 * C)):(h + B * T) / S % 2=h / S % 2:=by
 rw [hB,Nat.mul_assoc,Nat.add_mul_div_left _ _ hS,Nat.mul_assoc,Nat.add_mul_mod_self_left]
theorem shr_is32 {s:Nat} (hs:s < 32) (n:Nat):shrI .u32 (n:Int) (s:Int)=((n / 2 ^ s:Nat):Int):=by
 unfold shrI
 rw [show min (Int.toNat (s:Int)) (IntKind.bits .u32)=s by
  show min (Int.toNat (s:Int)) 32=s
  omega]
 rw [show (2:Int) ^ s=((2 ^ s:Nat):Int) by rw [Int.natCast_pow];rfl,Int.fdiv_eq_ediv_of_nonneg _ (Int.natCast_nonneg _),← Int.natCast_ediv]
theorem band1 {n:Nat} (h:n < 4294967296):band .u32 (n:Int) 1=((n % 2:Nat):Int):=by
 show IntKind.wrap .u32 (((BitVec.ofInt 32 (n:Int) &&& BitVec.ofInt 32 ((1:Nat):Int)).toNat:Nat):Int)=_
 rw [BitVec.ofInt_natCast,BitVec.ofInt_natCast,BitVec.toNat_and,BitVec.toNat_ofNat,BitVec.toNat_ofNat,Nat.mod_eq_of_lt (by omega),Nat.mod_eq_of_lt (by omega),Nat.and_one_is_mod,IntKind.wrap_u32]
 omega
theorem bit_is {a:List Int} (ha:Lb a) {i:Nat} (hi:i ≤ 1073741824):xW.f a (i:Int)=some (decide (val a / 2 ^ i % 2=1)):=by
 unfold xW.f
 rw [tdiv32 i hi,tmod32,dt' (by omega)]
 have hv:val a / 2 ^ i=val (a.drop (i / 32)) / 2 ^ (i % 32):=by rw [pow32 i,← Nat.div_div_eq_div_mul,val_div ha]
 rw [hv]
 by_cases hc:i / 32 < a.length
 ·have hd:=hdI_lt (ha.drop (i / 32))
  have hB:4294967296=2 ^ (i % 32) * (2 * 2 ^ (31 - i % 32)):=by
   rw [Nat.mul_comm 2,← Nat.pow_succ,← Nat.pow_add,show i % 32 + (31 - i % 32 + 1)=32 by omega]
  rw [dt' (by omega),dt' (by omega),df' (by omega),rd_hd ha hc,shr_is32 (Nat.mod_lt _ (by omega)),band1 (Nat.lt_of_le_of_lt (Nat.div_le_self _ _) hd),val_hd (a.drop (i / 32)),bit_arith (Nat.pow_pos (by omega)) hB]
  simp only [cond_true,cond_false,Option.bind_some]
  congr 1
  rw [Bool.eq_iff_iff,beq_iff_eq,decide_eq_true_iff]
  omega
 ·rw [df' (by omega),List.drop_eq_nil_of_le (by omega),val,Nat.zero_div]
  rfl
end Go.Proofs.YtlfcdmibknmjeaaGreatDoor.E
end
section
namespace Go.Proofs.YtlfcdmibknmjeaaGreatDoor.E
open Go Go.Proofs.YtlfcdmibknmjeaaGreatDoor.Ev
set_option linter.unusedSimpArgs false
theorem len_mono {m n:Nat} (h:m ≤ n):(limbs m).length ≤ (limbs n).length:=(limbs_len m _).2 (Nat.lt_of_le_of_lt h ((limbs_len n _).1 (Nat.le_refl _)))
theorem fits_mono {v p n:Nat} (h:p ≤ n) (hl:256 < (limbs (v ^ p)).length):¬ (limbs (v ^ n)).length ≤ 256:=by
 rcases Nat.eq_zero_or_pos v with hv | hv
 ·subst hv
  have h1:0 ^ p ≤ 1:=by
   cases p with
   | zero=>exact Nat.le_refl _
   | succ p=>rw [Nat.zero_pow (by omega)];exact Nat.zero_le _
  have h2:=len_mono h1
  have h3:(limbs 1).length ≤ 1:=(limbs_len 1 1).2 (by rw [Nat.pow_one];omega)
  omega
 ·have:=len_mono (Nat.pow_le_pow_right hv h)
  omega
theorem pow_l {a:List Int} (ha:Lb a) (sa:Sz a) {n:Nat}:∀ j:Nat,j ≤ 64→(limbs (val a ^ (n / 2 ^ j))).length ≤ 256 →
 yi.V0 a (limbs (val a ^ (n / 2 ^ j))) (limbs n) ((j:Int) - 1)=some (if (limbs (val a ^ n)).length ≤ 256 then Sum.inl (limbs (val a ^ n)) else Sum.inr false)
 | 0,_,h=>by
  rw [Nat.pow_zero,Nat.div_one] at h ⊢
  refine yi.v0 _ _ _ _ ?_
  unfold yi.b0
  rw [df' (by omega),if_pos h]
  rfl
 | j + 1,hj,h=>by
  have e:n / 2 ^ (j + 1)=n / 2 ^ j / 2:=by rw [Nat.pow_succ,Nat.div_div_eq_div_mul]
  have hi:=pow_l ha sa (n:=n) j (by omega)
  have hb:=bit_is (lb_limbs n) (i:=j) (by omega)
  rw [val_limbs] at hb
  have hle:n / 2 ^ j ≤ n:=Nat.div_le_self _ _
  rw [e] at h ⊢
  clear e
  generalize n / 2 ^ j=m at h hi hb hle ⊢
  refine yi.v0 _ _ _ _ ?_
  unfold yi.b0
  rw [dt' (by omega),show (((j + 1:Nat):Int) - 1)=(j:Int) by omega,mul_v (lb_limbs _) (lb_limbs _) (by unfold Sz;omega) (by unfold Sz;omega),val_limbs,← Nat.pow_add]
  simp only [cond_true,Option.bind_some]
  rw [hb]
  by_cases h1:256 < (limbs (val a ^ (m / 2 + m / 2))).length
  ·rw [dt' (by omega),if_neg (fits_mono (by omega) h1)]
   rfl
  ·rw [df' (by omega)]
   simp only [cond_false,Option.bind_some]
   by_cases h2:m % 2=1
   ·rw [decide_eq_true h2,mul_v (lb_limbs _) ha (by unfold Sz;omega) sa,val_limbs,← Nat.pow_succ,show (m / 2 + m / 2).succ=m by omega]
    simp only [Bool.not_true,cond_false,Option.bind_some]
    by_cases h3:256 < (limbs (val a ^ m)).length
    ·rw [dt' (by omega),if_neg (fits_mono hle h3)]
     rfl
    ·rw [df' (by omega),wrap64 (by omega) (by omega)]
     exact hi (by omega)
   ·rw [decide_eq_false h2]
    rw [show m / 2 + m / 2=m by omega] at h1 ⊢
    simp only [Bool.not_false,cond_true,Option.bind_some]
    rw [wrap64 (by omega) (by omega)]
    exact hi (by omega)
theorem pow_v {a:List Int} (ha:Lb a) (sa:Sz a) {n:Nat} (hn:n < 9223372036854775808):yi.V a (n:Int)=some (if (limbs (val a ^ n)).length ≤ 256 then Sum.inr (limbs (val a ^ n),true) else Sum.inl false):=by
 refine yi.v _ _ ?_
 unfold yi.b
 have h1:xn.V 1=some (limbs 1):=of_v (n:=1) (by omega)
 have hl:(limbs n).length ≤ 2:=(limbs_len n 2).2 (by omega)
 have hb:bitN n ≤ 64:=(bitN_le n 64).2 (by omega)
 have hz:n / 2 ^ bitN n=0:=Nat.div_eq_of_lt ((bitN_le n _).1 (Nat.le_refl _))
 have h0:(limbs (val a ^ (n / 2 ^ bitN n))).length ≤ 256:=by
  rw [hz,Nat.pow_zero]
  have h3:(limbs 1).length ≤ 1:=(limbs_len 1 1).2 (by rw [Nat.pow_one];omega)
  omega
 have hw:=pow_l ha sa (n:=n) (bitN n) hb h0
 rw [hz,Nat.pow_zero] at hw
 rw [df' (by omega),h1,u64n (by omega),of_v (by omega),Option.bind_some,Option.bind_some,bits_v (lb_limbs n) (by unfold Sz;omega),val_limbs,Option.bind_some,wrap64 (by omega) (by omega)]
 rw [show yi.V0 a ((limbs 1,(limbs n,((bitN n:Nat):Int) - 1)):(List Int) × (List Int) × Int).1 ((limbs 1,(limbs n,((bitN n:Nat):Int) - 1)):(List Int) × (List Int) × Int).2.1 ((limbs 1,(limbs n,((bitN n:Nat):Int) - 1)):(List Int) × (List Int) × Int).2.2=_ from hw]
 by_cases h:(limbs (val a ^ n)).length ≤ 256
 ·rw [if_pos h,if_pos h]
  rfl
 ·rw [if_neg h,if_neg h]
  rfl
end Go.Proofs.YtlfcdmibknmjeaaGreatDoor.E
end
section
namespace Go.Proofs.YtlfcdmibknmjeaaGreatDoor.E
open Go Go.Proofs.YtlfcdmibknmjeaaGreatDoor.Ev
set_option linter.unusedSimpArgs false
theorem less_l {x b:List Int} (hx:Lb x) (hb:Lb b) (sx:Sz x) (sb:b.length ≤ 1073740000) (h0:0 < val b):∀ (m q:Nat),q=val x / val b + m→q < 4294967296 →
 yb.V0 x b (q:Int)=some (limbs (val x % val b),((val x / val b:Nat):Int)):=by
 intro m
 induction m with
 | zero =>
  intro q e hq
  have hl:(limbs (val b * q)).length ≤ b.length + 1:=(limbs_len _ _).2 (by rw [Nat.pow_succ];exact Nat.mul_lt_mul'' (val_lt hb) hq)
  refine yb.v0 _ _ _ ?_
  unfold yb.b0
  rw [small_v hb (by unfold Sz;omega) hq,Option.bind_some,sub_v hx (lb_limbs _) sx (by unfold Sz;omega),val_limbs,Option.bind_some]
  have hq':val x / val b=q:=by omega
  have hdm:=Nat.div_add_mod (val x) (val b)
  rw [hq'] at hdm ⊢
  rw [if_neg (by omega),show val x - val b * q=val x % val b by omega]
  rfl
 | succ m ih =>
  intro q e hq
  have hl:(limbs (val b * q)).length ≤ b.length + 1:=(limbs_len _ _).2 (by rw [Nat.pow_succ];exact Nat.mul_lt_mul'' (val_lt hb) hq)
  refine yb.v0 _ _ _ ?_
  unfold yb.b0
  rw [small_v hb (by unfold Sz;omega) hq,Option.bind_some,sub_v hx (lb_limbs _) sx (by unfold Sz;omega),val_limbs,Option.bind_some]
  have hlt:val x < val b * q:=by
   rw [Nat.mul_comm]
   exact (Nat.div_lt_iff_lt_mul h0).1 (by omega)
  rw [if_pos hlt]
  simp only [Sum.elim_inl,cond_false]
  have hq1:1 ≤ q:=by
   rw [e];exact Nat.le_add_left _ _ |> Nat.le_trans (Nat.le_add_left 1 m)
  rw [show IntKind.wrap .u32 ((q:Int) - 1)=((q - 1:Nat):Int) by rw [IntKind.wrap_u32];omega]
  exact ih (q - 1) (by rw [e];rfl) (by omega)
theorem less_v {x b:List Int} (hx:Lb x) (hb:Lb b) (sx:Sz x) (sb:b.length ≤ 1073740000) (h0:0 < val b) {q:Nat} (h:val x / val b ≤ q) (hq:q < 4294967296) :
 yb.V x b (q:Int)=some (limbs (val x % val b),((val x / val b:Nat):Int)):=by
 refine yb.v _ _ _ ?_
 unfold yb.b
 rw [show yb.V0 x ((b,(q:Int)):(List Int) × Int).1 ((b,(q:Int)):(List Int) × Int).2=_ from less_l hx hb sx sb h0 (q - val x / val b) q (by omega) hq]
 rfl
theorem guess_is {x b:List Int} (hx:Lb x) (hb:Lb b) {k:Nat} (hk:b.length=k + 1) (hl:x.length=k + 2) (sk:k ≤ 1073741824) (ht:0 < hdI (b.drop k)) :
 xN.f x b=some ((min ((4294967296 * hdI (x.drop (k + 1)) + hdI (x.drop k)) / hdI (b.drop k)) 4294967295:Nat):Int):=by
 unfold xN.f
 have h1:=hdI_lt (hx.drop (k + 1))
 have h2:=hdI_lt (hx.drop k)
 have h3:=hdI_lt (hb.drop k)
 have hq:(4294967296 * hdI (x.drop (k + 1)) + hdI (x.drop k)) / hdI (b.drop k) ≤ 4294967296 * hdI (x.drop (k + 1)) + hdI (x.drop k):=Nat.div_le_self _ _
 rw [hk,hl,wrap64 (by omega) (by omega),show (((k + 1:Nat):Int) - 1)=(k:Int) by omega,dt' (by omega),dt' (by omega),dt' (by omega),rd_hd hb (by omega),rd_hd hx (by omega),rd_hd hx (by omega)]
 simp only [cond_true]
 rw [u64n (n:=hdI (b.drop k)) (by omega),u64n (n:=hdI (x.drop (k + 1))) (by omega),u64n (n:=hdI (x.drop k)) (by omega),df' (by omega),pack h1 h2,Int.tdiv_eq_ediv_of_nonneg (Int.natCast_nonneg _),← Int.natCast_ediv,u64n (by omega)]
 simp only [cond_false]
 generalize (4294967296 * hdI (x.drop (k + 1)) + hdI (x.drop k)) / hdI (b.drop k)=g at hq ⊢
 rw [show mnI (g:Int) 4294967295=((min g 4294967295:Nat):Int) by unfold mnI;split <;> omega,u32n]
 congr 1
 omega
end Go.Proofs.YtlfcdmibknmjeaaGreatDoor.E
end
section
namespace Go.Proofs.YtlfcdmibknmjeaaGreatDoor.E
open Go Go.Proofs.YtlfcdmibknmjeaaGreatDoor.Ev
set_option linter.unusedSimpArgs false
theorem val_top {a:List Int} {k:Nat} (hk:a.length=k + 1):val (a.drop k)=hdI (a.drop k):=by
 rw [val_hd,List.tail_drop,show a.drop (k + 1)=[] from List.drop_eq_nil_of_le (by omega),val,Nat.mul_zero,Nat.add_zero]
theorem val_top2 {a:List Int} {k:Nat} (hk:a.length=k + 2):val (a.drop k)=4294967296 * hdI (a.drop (k + 1)) + hdI (a.drop k):=by
 rw [val_hd,List.tail_drop,val_top hk,Nat.add_comm]
theorem guess_ge {x b:List Int} (hx:Lb x) (hb:Lb b) {k:Nat} (hk:b.length=k + 1) (hl:x.length=k + 2) (ht:0 < hdI (b.drop k)) (hlt:val x < val b * 4294967296) :
 val x / val b ≤ min ((4294967296 * hdI (x.drop (k + 1)) + hdI (x.drop k)) / hdI (b.drop k)) 4294967295:=by
 have h1:val x / val b < 4294967296:=Nat.div_lt_of_lt_mul hlt
 have h2:val x / val b ≤ (4294967296 * hdI (x.drop (k + 1)) + hdI (x.drop k)) / hdI (b.drop k):=by
  rw [← val_top2 hl,← val_top hk,← val_div hx,Nat.div_div_eq_div_mul]
  have ht2:0 < val (b.drop k):=by rw [val_top hk];exact ht
  refine Nat.div_le_div_left ?_ (Nat.mul_pos (Nat.pow_pos (by omega)) ht2)
  rw [← val_div hb]
  exact Nat.mul_div_le _ _
 exact Nat.le_min.2 ⟨h2,Nat.le_of_lt_succ h1⟩
end Go.Proofs.YtlfcdmibknmjeaaGreatDoor.E
end
section
namespace Go.Proofs.YtlfcdmibknmjeaaGreatDoor.E
open Go Go.Proofs.YtlfcdmibknmjeaaGreatDoor.Ev
set_option linter.unusedSimpArgs false
theorem lb_set {q:List Int} {n d:Nat} (h:Lb q) (hd:d < 4294967296):Lb (q.set n (d:Int)):=fun x hx=>by
 rcases List.mem_or_eq_of_mem_set hx with h' | h'
 ·exact h x h'
 ·omega
theorem rem_l {a b:List Int} (ha:Lb a) (hb:Lb b) {k:Nat} (hk:b.length=k + 1) (sk:k ≤ 1073730000) (sa:a.length ≤ 4294967296) (ht:0 < hdI (b.drop k)) (h0:0 < val b) (s:Int) :
 ∀ (n r:Nat) (out:List Int),Lb out→out.length=a.length→n ≤ a.length→r < val b →
 ∃ (r':Nat) (out':List Int),yh.V0 a b out s (limbs r) ((n:Int) - 1)=some (out',(s,limbs r'))∧Lb out'∧out'.length=a.length∧r' < val b∧val out' * val b + r'=val (a.take n) + 4294967296 ^ n * (val (out.drop n) * val b + r)
 | 0,r,out,ho,hl,_,hr=>by
  refine ⟨r,out,yh.v0 _ _ _ _ _ _ ?_,ho,hl,hr,?_⟩
  ·unfold yh.b0
   rw [df' (by omega)]
   rfl
  ·rw [List.take_zero,List.drop_zero,Nat.pow_zero,Nat.one_mul]
   simp [val]
 | n + 1,r,out,ho,hl,hn,hr=>by
  have hn':n < a.length:=by omega
  have hd:=hdI_lt (ha.drop n)
  have hval:val (a.take (n + 1))=val (a.take n) + 4294967296 ^ n * hdI (a.drop n):=by
   rw [val_snoc hn',rd_hd ha hn',Int.toNat_natCast]
  have hrd:=rd_hd ha hn'
  generalize hdI (a.drop n)=d at hd hval hrd
  have hrl:(limbs r).length ≤ k + 1:=(limbs_len r _).2 (by rw [← hk];exact Nat.lt_trans hr (val_lt hb))
  obtain ⟨x,hx⟩:∃ x,x=(d:Int) :: (limbs r ++ List.replicate (k + 1 - (limbs r).length) 0):=⟨_,rfl⟩
  have hxl:x.length=k + 2:=by rw [hx];simp;omega
  have hxb:Lb x:=by rw [hx];exact .cons (by omega) ((lb_limbs r).app (Lb.zeros _))
  have hxv:val x=4294967296 * r + d:=by
   rw [hx,val,val_app,val_zeros,val_limbs,Nat.mul_zero,Nat.add_zero,Int.toNat_natCast,Nat.add_comm]
  have hxs:Sz x:=by unfold Sz;omega
  have hlt:val x < val b * 4294967296:=by rw [hxv];omega
  have hg:=guess_is hxb hb hk hxl (by omega) ht
  have hge:=guess_ge hxb hb hk hxl ht hlt
  have hgl:min ((4294967296 * hdI (x.drop (k + 1)) + hdI (x.drop k)) / hdI (b.drop k)) 4294967295 < 4294967296:=Nat.lt_of_le_of_lt (Nat.min_le_right _ _) (by omega)
  have hls:=less_v hxb hb hxs (by omega) h0 hge hgl
  generalize min ((4294967296 * hdI (x.drop (k + 1)) + hdI (x.drop k)) / hdI (b.drop k)) 4294967295=g at hg hls
  have hqd:val x / val b < 4294967296:=Nat.div_lt_of_lt_mul hlt
  have hr2:val x % val b < val b:=Nat.mod_lt _ h0
  have hdm:=Nat.div_add_mod' (val x) (val b)
  rw [hxv] at hls hqd hr2 hdm
  generalize (4294967296 * r + d) / val b=qd at hqd hdm hls
  generalize (4294967296 * r + d) % val b=r2 at hr2 hdm hls
  obtain ⟨r',out',k1,k2,k3,k4,k5⟩:=rem_l ha hb hk sk sa ht h0 s n r2 (out.set n (qd:Int)) (lb_set ho hqd) (by rw [List.length_set];omega) (by omega) hr2
  refine ⟨r',out',yh.v0 _ _ _ _ _ _ ?_,k2,k3,k4,?_⟩
  ·have ex:List.set (copyAt 1 (k + 1) (limbs r) (List.replicate (k + 2) 0)) 0 (d:Int)=x:=by
    unfold copyAt
    rw [show (limbs r).take (k + 1)=limbs r from List.take_of_length_le hrl,List.drop_replicate,hx,show k + 2 - (1 + (limbs r).length)=k + 1 - (limbs r).length by omega]
    rfl
   have ec:(copyAt 1 (k + 1) (limbs r) (List.replicate (k + 2) 0)).length=k + 2:=by
    have hz:=congrArg List.length ex
    rw [List.length_set,hxl] at hz
    exact hz
   unfold yh.b0
   rw [show (((n + 1:Nat):Int) - 1)=(n:Int) by omega,dt' (by omega),hk,wrap64 (n:=((k + 1:Nat):Int) + 1) (by omega) (by omega),show (((k + 1:Nat):Int) + 1)=((k + 2:Nat):Int) by omega,Int.toNat_natCast,List.length_replicate,show Int.toNat (((k + 2:Nat):Int) - 1)=k + 1 by omega,show Int.toNat 1=1 from rfl,show Int.toNat 0=0 from rfl,ec,hrd,ex]
   rw [dt' (by omega),dt' (by omega),dt' (by omega),dt' (by omega),hg]
   simp only [cond_true,Option.bind_some]
   rw [hls]
   simp only [Option.bind_some]
   rw [dt' (by omega),Int.toNat_natCast,wrap64 (by omega) (by omega)]
   exact k1
  ·rw [k5,hval,Nat.pow_succ]
   have e2:(out.set n (qd:Int)).drop n=(qd:Int) :: out.drop (n + 1):=by
    rw [List.drop_eq_getElem_cons (by rw [List.length_set];omega),List.getElem_set_self,set_drop]
   rw [e2,val,Int.toNat_natCast]
   exact small_arith hdm
end Go.Proofs.YtlfcdmibknmjeaaGreatDoor.E
end
section
namespace Go.Proofs.YtlfcdmibknmjeaaGreatDoor.E
open Go Go.Proofs.YtlfcdmibknmjeaaGreatDoor.Ev
set_option linter.unusedSimpArgs false
theorem top_pos {m j:Nat} (hj:(limbs m).length=j + 1):0 < hdI ((limbs m).drop j):=by
 have h1:=val_div (lb_limbs m) j
 rw [val_limbs,val_top hj] at h1
 rw [← h1]
 refine Nat.div_pos (Nat.le_of_not_lt fun h=>?_) (Nat.pow_pos (by omega))
 have:=(limbs_len m j).2 h
 omega
theorem len_shl (m s:Nat) (hs:s ≤ 32):(limbs (m * 2 ^ s)).length ≤ (limbs m).length + 1:=(limbs_len _ _).2 (by
 rw [Nat.pow_succ]
 have h1:=(limbs_len m _).1 (Nat.le_refl _)
 have h2:2 ^ s ≤ 4294967296:=Nat.pow_le_pow_right (n:=2) (by omega) hs
 exact Nat.lt_of_lt_of_le (Nat.mul_lt_mul_of_pos_right h1 (Nat.pow_pos (by omega))) (Nat.mul_le_mul_left _ h2))
theorem rem_v {a b:List Int} (ha:Lb a) (hb:Lb b) (sa:a.length ≤ 1073720000) (sb:b.length ≤ 1073720000) :
 yh.V a b=some (if val b=0 then Sum.inl false else Sum.inr (limbs (val a / val b),limbs (val a % val b),true)):=by
 refine yh.v _ _ ?_
 unfold yh.b
 have lb:(limbs (val b)).length ≤ b.length:=used_le hb
 have la:(limbs (val a)).length ≤ a.length:=used_le ha
 rw [trim_v hb (by omega),Option.bind_some]
 rcases Nat.eq_zero_or_pos (val b) with h0 | h0
 ·rw [h0,limbs_zero,if_pos rfl]
  rfl
 ·rw [if_neg (by omega)]
  obtain ⟨k,hk⟩:∃ k,(limbs (val b)).length=k + 1:=⟨(limbs (val b)).length - 1,by rw [limbs_pos h0];rfl⟩
  have htl:=hdI_lt ((lb_limbs (val b)).drop k)
  rw [hk,show (((k + 1:Nat):Int) == 0)=false by rw [beq_eq_false_iff_ne];omega,wrap64 (n:=(((k + 1:Nat):Int) - 1)) (by omega) (by omega),show (((k + 1:Nat):Int) - 1)=(k:Int) by omega,dt' (by omega),rd_hd (lb_limbs _) (by omega),lead32_is htl]
  simp only [cond_true,cond_false,Option.bind_some]
  obtain ⟨s,hs⟩:∃ s,s=32 - bitN (hdI ((limbs (val b)).drop k)):=⟨_,rfl⟩
  rw [← hs]
  have hs32:s ≤ 32:=by omega
  rw [shift_v ha (by omega),shift_v (lb_limbs _) (by omega),val_limbs,if_pos (by omega),if_pos (by omega),show min (Int.toNat (s:Int)) 8192=s by omega]
  simp only [Option.bind_some]
  have hp:0 < 2 ^ s:=Nat.pow_pos (by omega)
  have l1:=len_shl (val a) s hs32
  have l2:=len_shl (val b) s hs32
  have hm:0 < val b * 2 ^ s:=Nat.mul_pos h0 hp
  obtain ⟨j,hj⟩:∃ j,(limbs (val b * 2 ^ s)).length=j + 1:=⟨(limbs (val b * 2 ^ s)).length - 1,by rw [limbs_pos hm];rfl⟩
  obtain ⟨r',out',k1,k2,k3,k4,k5⟩:=rem_l (lb_limbs (val a * 2 ^ s)) (lb_limbs (val b * 2 ^ s)) hj (by omega) (by omega) (top_pos hj) (by rw [val_limbs];exact hm) (s:Int) (limbs (val a * 2 ^ s)).length 0 (List.replicate (limbs (val a * 2 ^ s)).length 0) (Lb.zeros _) (by rw [List.length_replicate]) (Nat.le_refl _) (by rw [val_limbs];exact hm)
  rw [List.take_length,show (List.replicate (limbs (val a * 2 ^ s)).length (0:Int)).drop (limbs (val a * 2 ^ s)).length=[] from List.drop_eq_nil_of_le (by rw [List.length_replicate];exact Nat.le_refl _),val_limbs,val_limbs,val,Nat.zero_mul,Nat.zero_add,Nat.mul_zero,Nat.add_zero] at k5
  rw [val_limbs] at k4
  rw [limbs_zero] at k1
  rw [dt' (by omega),wrap64 (by omega) (by omega),Int.toNat_natCast]
  simp only [cond_true]
  rw [k1]
  simp only [Option.bind_some]
  have hq:val out'=val a / val b:=by
   rw [← Nat.mul_div_mul_right (val a) (val b) hp,← k5,Nat.mul_comm (val out'),Nat.mul_add_div hm,Nat.div_eq_of_lt k4,Nat.add_zero]
  have hr:r'=val a % val b * 2 ^ s:=by
   rw [← Nat.mul_mod_mul_right,← k5,Nat.mul_comm (val out'),Nat.mul_add_mod,Nat.mod_eq_of_lt k4]
  have lr:(limbs r').length ≤ (limbs (val b * 2 ^ s)).length:=len_mono (Nat.le_of_lt k4)
  have hback:(if (0:Int) ≤ 0 - (s:Int) then r' * 2 ^ min (Int.toNat (0 - (s:Int))) 8192 else if (0:Int) - (s:Int) < -8192 then 0 else r' / 2 ^ Int.toNat (-(0 - (s:Int))))=val a % val b:=by
   by_cases hz:s=0
   ·subst hz
    rw [if_pos (by omega),show min (Int.toNat (0 - ((0:Nat):Int))) 8192=0 by omega,hr,Nat.pow_zero,Nat.mul_one,Nat.mul_one]
   ·rw [if_neg (by omega),if_neg (by omega),show Int.toNat (-(0 - (s:Int)))=s by omega,hr,Nat.mul_div_cancel _ hp]
  rw [trim_v k2 (by omega),wrap64 (by omega) (by omega),shift_v (lb_limbs r') (by omega),val_limbs,hback,hq]
  rfl
end Go.Proofs.YtlfcdmibknmjeaaGreatDoor.E
end
section
namespace Go.Proofs.YtlfcdmibknmjeaaGreatDoor.E
open Go Go.Proofs.YtlfcdmibknmjeaaGreatDoor.Ev
set_option linter.unusedSimpArgs false
theorem gcd_l:∀ (m x y:Nat),y < m→(limbs x).length ≤ 1073720000→(limbs y).length ≤ 1073720000→yl.V0 (limbs x) (limbs y)=some (limbs (Nat.gcd y x))
 | 0,_,_,h,_,_=>absurd h (by omega)
 | m + 1,x,y,h,sx,sy=>by
  refine yl.v0 _ _ ?_
  unfold yl.b0
  rcases Nat.eq_zero_or_pos y with h0 | h0
  ·subst h0
   rw [limbs_zero,df' (by simp),Nat.gcd_zero_left]
   rfl
  ·have hl:0 < (limbs y).length:=by rw [limbs_pos h0];exact Nat.succ_pos _
   have hr:=Nat.mod_lt x h0
   rw [dt' (by omega),rem_v (lb_limbs x) (lb_limbs y) sx sy,val_limbs,val_limbs,if_neg (by omega)]
   simp only [cond_true,Option.bind_some,Sum.elim_inr]
   rw [gcd_l m y (x % y) (by omega) sy (Nat.le_trans (len_mono (Nat.le_of_lt hr)) sy),← Nat.gcd_rec]
theorem gcd_v {a b:List Int} (ha:Lb a) (hb:Lb b) (sa:a.length ≤ 1073720000) (sb:b.length ≤ 1073720000):yl.V a b=some (limbs (Nat.gcd (val a) (val b))):=by
 refine yl.v _ _ ?_
 unfold yl.b
 have la:(limbs (val a)).length ≤ a.length:=used_le ha
 have lb:(limbs (val b)).length ≤ b.length:=used_le hb
 rw [trim_v ha (by omega),trim_v hb (by omega),Option.bind_some,Option.bind_some,gcd_l (val b + 1) (val a) (val b) (by omega) (by omega) (by omega),Nat.gcd_comm]
 rfl
end Go.Proofs.YtlfcdmibknmjeaaGreatDoor.E
end
section
namespace Go.Proofs.YtlfcdmibknmjeaaGreatDoor.E
open Go Go.Proofs.YtlfcdmibknmjeaaGreatDoor.Ev
set_option linter.unusedSimpArgs false
def sgn (neg:Bool) (n:Nat):Int:=if neg then -(n:Int) else (n:Int)
def wI (z:Int):Bool × List Int:=(decide (z < 0),limbs z.natAbs)
theorem wI_sgn (neg:Bool) (n:Nat):wI (sgn neg n)=(neg && decide (0 < n),limbs n):=by
 unfold wI sgn
 cases neg
 ·rw [if_neg (by decide),Bool.false_and,Int.natAbs_natCast,df' (by omega)]
 ·rw [if_pos rfl,Bool.true_and,Int.natAbs_neg,Int.natAbs_natCast,show decide (-(n:Int) < 0)=decide (0 < n) from decide_eq_decide.2 (by omega)]
theorem copy_all (a:List Int):copyL a (List.replicate a.length 0)=a:=by
 unfold copyL
 rw [List.length_replicate,List.take_length,List.drop_eq_nil_of_le (by rw [List.length_replicate];exact Nat.le_refl _),List.append_nil]
theorem made_v (neg:Bool) {a:List Int} (ha:Lb a) (sa:Sz a):yw.V neg a=some (wI (sgn neg (val a))):=by
 refine yw.v _ _ ?_
 unfold yw.b
 have sa':=sa
 unfold Sz at sa'
 rw [dt' (by omega),Int.toNat_natCast,copy_all,trim_v ha sa.far,wI_sgn]
 simp only [cond_true,Option.bind_some]
 cases neg
 ·rfl
 ·have e:(decide ((((limbs (val a)).length:Nat):Int) > 0))=decide (0 < val a):=decide_eq_decide.2 (by
   rcases Nat.eq_zero_or_pos (val a) with h | h
   ·rw [h,limbs_zero];simp
   ·rw [limbs_pos h,List.length_cons];omega)
  rw [e]
  rfl
end Go.Proofs.YtlfcdmibknmjeaaGreatDoor.E
end
section
namespace Go.Proofs.YtlfcdmibknmjeaaGreatDoor.E
open Go Go.Proofs.YtlfcdmibknmjeaaGreatDoor.Ev
set_option linter.unusedSimpArgs false
theorem sgn_not (n:Bool) (v:Nat):sgn (!n) v=-sgn n v:=by
 unfold sgn
 cases n <;> simp
theorem sgn_mul (n n':Bool) (v v':Nat):sgn (!(n == n')) (v * v')=sgn n v * sgn n' v':=by
 unfold sgn
 cases n <;> cases n' <;> simp [Int.natCast_mul,Int.neg_mul,Int.mul_neg]
theorem sgn_abs (z:Int):sgn (decide (z < 0)) z.natAbs=z:=by
 unfold sgn
 by_cases h:z < 0
 ·rw [dt' h,if_pos rfl];omega
 ·rw [df' h,if_neg (by decide)];omega
theorem wtrim_v (n:Bool) {a:List Int} (ha:Lb a) (sa:Sz a):yy.V (n,(a,()))=some (wI (sgn n (val a))):=by
 refine yy.v _ ?_
 unfold yy.b
 rw [show yw.V ((n,(a,())):Bool × List Int × Unit).1 ((n,(a,())):Bool × List Int × Unit).2.1=_ from made_v n ha sa]
 rfl
theorem wneg_v (n:Bool) {a:List Int} (ha:Lb a) (sa:Sz a):yV.V (n,(a,()))=some (wI (-sgn n (val a))):=by
 refine yV.v _ ?_
 unfold yV.b
 rw [show yw.V (!((n,(a,())):Bool × List Int × Unit).1) ((n,(a,())):Bool × List Int × Unit).2.1=_ from made_v (!n) ha sa,sgn_not]
 rfl
theorem wmul_v (n n':Bool) {a b:List Int} (ha:Lb a) (hb:Lb b) (sa:a.length ≤ 500000000) (sb:b.length ≤ 500000000):yL.V (n,(a,())) (n',(b,()))=some (wI (sgn n (val a) * sgn n' (val b))):=by
 refine yL.v _ _ ?_
 unfold yL.b
 have hl:(limbs (val a * val b)).length ≤ a.length + b.length:=(limbs_len _ _).2 (by rw [Nat.pow_add];exact Nat.mul_lt_mul'' (val_lt ha) (val_lt hb))
 have za:Sz a:=by unfold Sz;omega
 have zb:Sz b:=by unfold Sz;omega
 rw [show zA.V ((n,(a,())):Bool × List Int × Unit).2.1 ((n',(b,())):Bool × List Int × Unit).2.1=_ from mul_v ha hb za zb,Option.bind_some]
 rw [show yw.V (!(((n,(a,())):Bool × List Int × Unit).1 == ((n',(b,())):Bool × List Int × Unit).1)) (limbs (val a * val b))=_ from made_v (!(n == n')) (lb_limbs _) (by unfold Sz;omega),val_limbs,sgn_mul]
 rfl
end Go.Proofs.YtlfcdmibknmjeaaGreatDoor.E
end
section
namespace Go.Proofs.YtlfcdmibknmjeaaGreatDoor.E
open Go Go.Proofs.YtlfcdmibknmjeaaGreatDoor.Ev
set_option linter.unusedSimpArgs false
theorem sgn_add (d:Bool) (p q:Nat):sgn d (p + q)=sgn d p + sgn d q:=by
 unfold sgn
 cases d
 ·rw [if_neg (by decide),if_neg (by decide),if_neg (by decide)];omega
 ·rw [if_pos rfl,if_pos rfl,if_pos rfl];omega
theorem sgn_sub {d d':Bool} (h:(d == d')=false) {p q:Nat} (hq:q ≤ p):sgn d (p - q)=sgn d p + sgn d' q:=by
 unfold sgn
 cases d <;> cases d'
 ·cases h
 ·rw [if_neg (by decide),if_neg (by decide),if_pos rfl];omega
 ·rw [if_pos rfl,if_pos rfl,if_neg (by decide)];omega
 ·cases h
theorem wI_fst (z:Int):(wI z).1=decide (z < 0):=rfl
theorem wI_snd (z:Int):(wI z).2=limbs z.natAbs:=rfl
theorem abs_sgn (n:Bool) (v:Nat):(sgn n v).natAbs=v:=by
 unfold sgn
 cases n
 ·rw [if_neg (by decide)];omega
 ·rw [if_pos rfl];omega
theorem wadd_v (n n':Bool) {a b:List Int} (ha:Lb a) (hb:Lb b) (sa:a.length ≤ 500000000) (sb:b.length ≤ 500000000):yW.V (n,(a,())) (n',(b,()))=some (wI (sgn n (val a) + sgn n' (val b))):=by
 refine yW.v _ _ ?_
 unfold yW.b
 have za:Sz a:=by unfold Sz;omega
 have zb:Sz b:=by unfold Sz;omega
 have la:(limbs (val a)).length ≤ a.length:=used_le ha
 have lb:(limbs (val b)).length ≤ b.length:=used_le hb
 rw [wtrim_v n ha za,wtrim_v n' hb zb,Option.bind_some,Option.bind_some]
 simp only [wI_fst,wI_snd,abs_sgn]
 have ez:=sgn_abs (sgn n (val a))
 have ew:=sgn_abs (sgn n' (val b))
 rw [abs_sgn] at ez ew
 generalize decide (sgn n (val a) < 0)=d at ez ⊢
 generalize decide (sgn n' (val b) < 0)=d' at ew ⊢
 rw [← ez,← ew]
 clear ez ew
 generalize val a=p at la ⊢
 generalize val b=q at lb ⊢
 have hp:Sz (limbs p):=by unfold Sz;omega
 have hq:Sz (limbs q):=by unfold Sz;omega
 cases hd:d == d'
 ·rw [sub_v (lb_limbs p) (lb_limbs q) hp hq,sub_v (lb_limbs q) (lb_limbs p) hq hp,val_limbs,val_limbs]
  by_cases h:p < q
  ·have hl:=len_mono (Nat.sub_le q p)
   have hd':(d' == d)=false:=by cases d <;> cases d' <;> first | rfl | cases hd
   rw [if_pos h,if_neg (by omega)]
   simp only [cond_false,Option.bind_some,Sum.elim_inl,Sum.elim_inr]
   rw [made_v d' (lb_limbs _) (by unfold Sz;omega),val_limbs,sgn_sub hd' (Nat.le_of_lt h),Int.add_comm]
   rfl
  ·have hl:=len_mono (Nat.sub_le p q)
   rw [if_neg h]
   simp only [cond_false,cond_true,Option.bind_some,Sum.elim_inl,Sum.elim_inr]
   rw [made_v d (lb_limbs _) (by unfold Sz;omega),val_limbs,sgn_sub hd (by omega)]
   rfl
 ·have hdd:d=d':=by simpa using hd
  subst hdd
  have hl:(limbs (p + q)).length ≤ (limbs p).length + (limbs q).length + 1:=(limbs_len _ _).2 (by
   have h1:=(limbs_len p _).1 (Nat.le_refl _)
   have h2:=(limbs_len q _).1 (Nat.le_refl _)
   have h3:4294967296 ^ (limbs p).length ≤ 4294967296 ^ ((limbs p).length + (limbs q).length):=pow_mono (by omega)
   have h4:4294967296 ^ (limbs q).length ≤ 4294967296 ^ ((limbs p).length + (limbs q).length):=pow_mono (by omega)
   rw [Nat.pow_succ]
   generalize 4294967296 ^ ((limbs p).length + (limbs q).length)=P at *
   omega)
  rw [add_v (lb_limbs p) (lb_limbs q) hp hq,val_limbs,val_limbs]
  simp only [cond_true,Option.bind_some]
  rw [made_v d (lb_limbs _) (by unfold Sz;omega),val_limbs,sgn_add]
  rfl
def cmpZ (z w:Int):Int:=if z < w then -1 else if w < z then 1 else 0
theorem wcmp_v (n n':Bool) {a b:List Int} (ha:Lb a) (hb:Lb b) (sa:a.length ≤ 500000000) (sb:b.length ≤ 500000000):yT.V (n,(a,())) (n',(b,()))=some (cmpZ (sgn n (val a)) (sgn n' (val b))):=by
 refine yT.v _ _ ?_
 unfold yT.b
 have za:Sz a:=by unfold Sz;omega
 have zb:Sz b:=by unfold Sz;omega
 have la:(limbs (val a)).length ≤ a.length:=used_le ha
 have lb:(limbs (val b)).length ≤ b.length:=used_le hb
 rw [wtrim_v n ha za,wtrim_v n' hb zb,Option.bind_some,Option.bind_some]
 simp only [wI_fst,wI_snd]
 have hp:(limbs (sgn n (val a)).natAbs).length ≤ 500000000:=by rw [abs_sgn];omega
 have hq:(limbs (sgn n' (val b)).natAbs).length ≤ 500000000:=by rw [abs_sgn];omega
 generalize sgn n (val a)=z at hp ⊢
 generalize sgn n' (val b)=w at hq ⊢
 have zp:Sz (limbs z.natAbs):=by unfold Sz;omega
 have zq:Sz (limbs w.natAbs):=by unfold Sz;omega
 rw [cmp_v (lb_limbs _) (lb_limbs _) zq zp,val_limbs,val_limbs]
 by_cases h1:z < 0
 ·by_cases h2:w < 0
  ·rw [dt' h1,dt' h2]
   simp only [Bool.not_true,cond_true,cond_false,Option.bind_some,Sum.elim_inr]
   congr 1
   unfold cmpI cmpZ
   split <;> split <;> (try split) <;> (try split) <;> omega
  ·rw [dt' h1,df' h2]
   simp only [Bool.not_true,Bool.not_false,cond_true,cond_false,Option.bind_some,Sum.elim_inr]
   congr 1
   unfold cmpZ
   rw [if_pos (by omega)]
 ·by_cases h2:w < 0
  ·rw [df' h1,dt' h2]
   simp only [Bool.not_true,Bool.not_false,cond_true,cond_false,Option.bind_some,Sum.elim_inr]
   congr 1
   unfold cmpZ
   rw [if_neg (by omega),if_pos (by omega)]
  ·rw [df' h1,df' h2]
   simp only [Bool.not_true,Bool.not_false,cond_true,cond_false,Option.bind_some,Sum.elim_inr,Sum.elim_inl]
   rw [cmp_v (lb_limbs _) (lb_limbs _) zp zq,val_limbs,val_limbs]
   rw [Option.bind_some]
   congr 1
   unfold cmpI cmpZ
   split <;> split <;> (try split) <;> (try split) <;> omega
end Go.Proofs.YtlfcdmibknmjeaaGreatDoor.E
end
section
namespace Go.Proofs.YtlfcdmibknmjeaaGreatDoor.E
open Go Go.Proofs.YtlfcdmibknmjeaaGreatDoor.Ev
set_option linter.unusedSimpArgs false
theorem wof_v {z:Int} (h1:-9223372036854775808 ≤ z) (h2:z < 9223372036854775808):xx.V z=some (wI z):=by
 refine xx.v _ ?_
 unfold xx.b
 have hl:(limbs z.natAbs).length ≤ 2:=(limbs_len _ 2).2 (by omega)
 have hz:Sz (limbs z.natAbs):=by unfold Sz;omega
 by_cases h:z < 0
 ·rw [dt' h,show IntKind.wrap .u64 (0 - IntKind.wrap .u64 z)=((z.natAbs:Nat):Int) by rw [IntKind.wrap_u64,IntKind.wrap_u64];omega,of_v (by omega)]
  simp only [cond_true,Option.bind_some]
  rw [made_v true (lb_limbs _) hz,val_limbs,show sgn true z.natAbs=z by unfold sgn;rw [if_pos rfl];omega]
  rfl
 ·rw [df' h,show IntKind.wrap .u64 z=((z.natAbs:Nat):Int) by rw [IntKind.wrap_u64];omega,of_v (by omega)]
  simp only [cond_false,Option.bind_some]
  rw [made_v false (lb_limbs _) hz,val_limbs,show sgn false z.natAbs=z by unfold sgn;rw [if_neg (by decide)];omega]
  rfl
end Go.Proofs.YtlfcdmibknmjeaaGreatDoor.E
end
