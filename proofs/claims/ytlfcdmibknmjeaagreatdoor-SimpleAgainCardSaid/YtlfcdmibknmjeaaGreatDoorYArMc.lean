import Derived.Test.YtlfcdmibknmjeaaGreatDoorYArMb
section
namespace Go.Proofs.YtlfcdmibknmjeaaGreatDoor.E
open Go Go.Proofs.YtlfcdmibknmjeaaGreatDoor.Ev
set_option linter.unusedSimpArgs false
theorem rtrim_l {a:List Int} (ha:Lb a) (hs:a.length ≤ 4294967296):∀ i:Nat,i ≤ a.length→zj.V0 a (i:Int)=some (a,((usedN (a.take i):Nat):Int))
 | 0,_=>by
  refine zj.v0 _ _ ?_
  unfold zj.b0
  rw [df' (by omega),List.take_zero]
  unfold usedN
  rw [show val []=0 from rfl,limbs_zero]
  rfl
 | i + 1,h=>by
  refine zj.v0 _ _ ?_
  unfold zj.b0
  have w:IntKind.wrap .i64 (((i + 1:Nat):Int) - 1)=(i:Int):=by rw [wrap64 (by omega) (by omega)];omega
  rw [w,dt' (by omega),dt' (by omega),take_snoc (by omega)]
  simp only [cond_true]
  have hr:=rd_lb ha (i:=i) (by omega)
  by_cases hz:rdL (0:Int) a (i:Int)=0
  ·rw [hz,used_zero]
   exact rtrim_l ha hs i (by omega)
  ·rw [show (rdL (0:Int) a (i:Int) == 0)=false by simpa using hz,used_last (ha.take i) (by omega),List.length_take,Nat.min_eq_left (by omega)]
   rfl
theorem rtrim_v {a:List Int} (ha:Lb a) (hs:a.length ≤ 4294967296):zj.V a=some (limbs (val a)):=by
 refine zj.v _ ?_
 unfold zj.b
 have hu:=used_le ha
 have hl:(limbs (val a)).length ≤ a.length:=used_le ha
 rw [rtrim_l ha hs a.length (Nat.le_refl _),List.take_length,Option.bind_some]
 simp only
 rw [dt' (by omega),Int.toNat_natCast,take_used ha,List.nil_append,dt' (by rw [List.length_nil];omega)]
 rfl
theorem rat_is {a:List Int} (ha:Lb a) (i:Nat):xG.f a (i:Int)=some ((hdI (a.drop i):Nat):Int):=by
 unfold xG.f
 by_cases h:i < a.length
 ·have hr:=hdI_lt (ha.drop i)
  rw [df' (by omega),dt' (by omega),rd_hd ha h,u64n (by omega)]
  rfl
 ·rw [dt' (by omega),List.drop_eq_nil_of_le (by omega)]
  rfl
theorem rof_v {n:Nat} (h:n < 18446744073709551616):xv.V (n:Int)=some (limbs n):=by
 refine xv.v _ ?_
 unfold xv.b
 rw [shr32,IntKind.wrap_u32,IntKind.wrap_u32]
 have e:val [(n:Int) % 4294967296,((n / 4294967296:Nat):Int) % 4294967296]=n:=by simp only [val];omega
 rw [rtrim_v (.cons (by omega) (.cons (by omega) .nil)) (by simp),e]
 rfl
theorem val_snoc' (a:List Int) (ha:Lb a) (i:Nat):val (a.take (i + 1))=val (a.take i) + 4294967296 ^ i * hdI (a.drop i):=by
 by_cases h:i < a.length
 ·rw [val_snoc h,rd_hd ha h,Int.toNat_natCast]
 ·rw [List.drop_eq_nil_of_le (by omega),List.take_of_length_le (by omega),List.take_of_length_le (by omega),show hdI []=0 from rfl,Nat.mul_zero,Nat.add_zero]
theorem val_take_lt {a:List Int} (ha:Lb a) (i:Nat):val (a.take i) < 4294967296 ^ i :=
 Nat.lt_of_lt_of_le (val_lt (ha.take i)) (pow_mono (by rw [List.length_take];omega))
theorem rcmp_l {a b:List Int} (ha:Lb a) (hb:Lb b):∀ i:Nat,i ≤ 4294967296 →
 zI.V0 a b ((i:Int) - 1)=some (if val (a.take i)=val (b.take i) then Sum.inl () else Sum.inr (cmpI (val (a.take i)) (val (b.take i))))
 | 0,_=>by
  refine zI.v0 _ _ _ ?_
  unfold zI.b0
  rw [df' (by omega)]
  simp
 | i + 1,h1=>by
  refine zI.v0 _ _ _ ?_
  unfold zI.b0
  have e:(((i + 1:Nat):Int) - 1)=(i:Int):=by omega
  rw [e,dt' (by omega),rat_is ha,rat_is hb,val_snoc' a ha,val_snoc' b hb]
  simp only [cond_true,Option.bind_some]
  have l1:=val_take_lt ha i
  have l2:=val_take_lt hb i
  generalize hdI (a.drop i)=u
  generalize hdI (b.drop i)=v
  by_cases c1:u < v
  ·have:=top_lt (y:=val (b.take i)) l1 c1
   rw [dt' (by omega),if_neg (by omega)]
   unfold cmpI
   rw [if_pos this]
   rfl
  ·by_cases c2:v < u
   ·have:=top_lt (y:=val (a.take i)) l2 c2
    rw [df' (by omega),dt' (by omega),if_neg (by omega)]
    unfold cmpI
    rw [if_neg (by omega),if_pos (by omega)]
    rfl
   ·have huv:u=v:=by omega
    subst huv
    rw [df' (by omega)]
    simp only [cond_false]
    rw [wrap64 (by omega) (by omega),rcmp_l ha hb i (by omega)]
    unfold cmpI
    simp only [Nat.add_right_cancel_iff,Nat.add_lt_add_iff_right]
theorem rcmp_v {a b:List Int} (ha:Lb a) (hb:Lb b) (sa:Sz a) (sb:Sz b):zI.V a b=some (cmpI (val a) (val b)):=by
 refine zI.v _ _ ?_
 unfold zI.b
 unfold Sz at sa sb
 have e:mxI ((a.length:Nat):Int) ((b.length:Nat):Int)=((max a.length b.length:Nat):Int):=by unfold mxI;split <;> omega
 rw [e]
 simp only
 rw [wrap64 (by omega) (by omega),rcmp_l ha hb _ (by omega),List.take_of_length_le (by omega),List.take_of_length_le (by omega),Option.bind_some]
 by_cases h:val a=val b
 ·rw [if_pos h,h];unfold cmpI;simp
 ·rw [if_neg h];rfl
theorem radd_arith {B P s x y c T U v:Nat} (h:s=x + y + c):v + P * (s % B + B * 0) + P * B * (T + U + s / B)=v + P * (x + B * T + (y + B * U) + c):=by
 have h1:=Nat.div_add_mod s B
 have e:s % B + B * 0 + B * (T + U + s / B)=x + B * T + (y + B * U) + c:=by
  rw [Nat.mul_zero,Nat.mul_add,Nat.mul_add]
  generalize s / B=q at *
  generalize s % B=r at *
  omega
 rw [← e,Nat.mul_add P (s % B + B * 0),Nat.mul_assoc P B,Nat.add_assoc]
theorem radd_l {a b:List Int} (ha:Lb a) (hb:Lb b) (sa:Sz a) (sb:Sz b):∀ (m i:Nat) (out:List Int) (c:Nat),Lb out→max a.length b.length + 1 ≤ m + i→c ≤ 1→(max a.length b.length < i→c=0)→out.length=i→i ≤ max a.length b.length + 1 →
 ∃ r,zK.V0 a b out (c:Int) (i:Int)=some r∧Lb r∧val r=val out + 4294967296 ^ i * (val (a.drop i) + val (b.drop i) + c)∧r.length ≤ max a.length b.length + 1:=by
 intro m
 unfold Sz at sa sb
 induction m with
 | zero =>
  intro i out c ho hm hc hz hl hi
  have hc0:=hz (by omega)
  subst hc0
  refine ⟨out,zK.v0 _ _ _ _ _ ?_,ho,?_,by omega⟩
  ·unfold zK.b0
   rw [df' (by omega),df' (by omega),df' (by omega)]
   rfl
  ·rw [List.drop_eq_nil_of_le (by omega),List.drop_eq_nil_of_le (by omega)]
   simp [val]
 | succ m ih =>
  intro i out c ho hm hc hz hl hi
  have hcond:(bif (decide ((i:Int) < ((a.length:Nat):Int))) then (some (a,(b,(out,((c:Int),((i:Int),true)))))) else (bif (decide ((i:Int) < ((b.length:Nat):Int))) then (some (a,(b,(out,((c:Int),((i:Int),true)))))) else (some (a,(b,(out,((c:Int),((i:Int),(decide ((c:Int) > (0:Int)))))))))))
   = some (a,(b,(out,((c:Int),((i:Int),decide (i < a.length ∨ i < b.length ∨ 0 < c)))))):=by
   by_cases h1:i < a.length
   ·rw [dt' (by omega),dt' (c:=i < a.length ∨ i < b.length ∨ 0 < c) (by omega)];rfl
   ·by_cases h2:i < b.length
    ·rw [df' (by omega),dt' (by omega),dt' (c:=i < a.length ∨ i < b.length ∨ 0 < c) (by omega)];rfl
    ·rw [df' (by omega),df' (by omega),show decide ((c:Int) > 0)=decide (i < a.length ∨ i < b.length ∨ 0 < c) from decide_eq_decide.2 (by omega)];rfl
  by_cases hk:i < a.length ∨ i < b.length ∨ 0 < c
  ·have hx:=hdI_lt (ha.drop i)
   have hy:=hdI_lt (hb.drop i)
   have hva:=val_hd (a.drop i)
   have hvb:=val_hd (b.drop i)
   rw [List.tail_drop] at hva hvb
   have him:i ≤ max a.length b.length:=by omega
   have hzero:max a.length b.length < i + 1→hdI (a.drop i)=0∧hdI (b.drop i)=0:=fun hh=>by
    rw [List.drop_eq_nil_of_le (by omega),List.drop_eq_nil_of_le (by omega)]
    exact ⟨rfl,rfl⟩
   rw [hva,hvb]
   generalize hxe:hdI (a.drop i)=x at *
   generalize hye:hdI (b.drop i)=y at *
   obtain ⟨s,hs⟩:∃ s,s=x + y + c:=⟨_,rfl⟩
   have hlb:Lb (out ++ [((s % 4294967296:Nat):Int)]):=ho.app (.cons (by omega) .nil)
   obtain ⟨r,k1,k2,k3,k4⟩:=ih (i + 1) (out ++ [((s % 4294967296:Nat):Int)]) (s / 4294967296) hlb (by omega) (by omega) (fun hh=>by have:=hzero hh;omega) (by rw [List.length_append,List.length_singleton];omega) (by omega)
   refine ⟨r,zK.v0 _ _ _ _ _ ?_,k2,?_,k4⟩
   ·unfold zK.b0
    rw [hcond,dt' hk]
    simp only [Option.bind_some,cond_true]
    rw [rat_is ha,rat_is hb,hxe,hye]
    simp only [Option.bind_some]
    have e:IntKind.wrap .u64 ((c:Int) + IntKind.wrap .u64 (((x:Nat):Int) + ((y:Nat):Int)))=((s:Nat):Int):=by rw [IntKind.wrap_u64,IntKind.wrap_u64];omega
    rw [e,u32n,shr32,dt' (by rw [List.length_cons,List.length_nil];omega),wrap64 (by omega) (by omega)]
    exact k1
   ·rw [k3,val_app,hl,val,val,Int.toNat_natCast,Nat.pow_succ]
    exact radd_arith hs
  ·refine ⟨out,zK.v0 _ _ _ _ _ ?_,ho,?_,by omega⟩
   ·unfold zK.b0
    rw [hcond,df' hk]
    rfl
   ·rw [List.drop_eq_nil_of_le (by omega),List.drop_eq_nil_of_le (by omega),show c=0 by omega]
    simp [val]
theorem radd_v {a b:List Int} (ha:Lb a) (hb:Lb b) (sa:Sz a) (sb:Sz b):zK.V a b=some (limbs (val a + val b)):=by
 refine zK.v _ _ ?_
 unfold zK.b
 obtain ⟨r,k1,k2,k3,k4⟩:=radd_l ha hb sa sb (max a.length b.length + 1) 0 [] 0 .nil (by omega) (by omega) (by omega) rfl (by omega)
 unfold Sz at sa sb
 simp only
 rw [show zK.V0 a b [] 0 0=_ from k1,Option.bind_some,rtrim_v k2 (by omega),k3]
 simp [val]
theorem rsub_l {a b:List Int} (ha:Lb a) (hb:Lb b) (sa:Sz a):∀ (m i:Nat) (out:List Int) (c:Nat),out.length=i→m + i=a.length→c ≤ 1 →
 zN.V0 a b out (c:Int) (i:Int)=some (out ++ subL m (a.drop i) (b.drop i) c):=by
 intro m
 unfold Sz at sa
 induction m with
 | zero =>
  intro i out c hl hm hc
  refine zN.v0 _ _ _ _ _ ?_
  unfold zN.b0
  rw [df' (by omega),subL,List.append_nil]
  rfl
 | succ m ih =>
  intro i out c hl hm hc
  have hx:=hdI_lt (ha.drop i)
  have hy:=hdI_lt (hb.drop i)
  refine zN.v0 _ _ _ _ _ ?_
  unfold zN.b0
  rw [dt' (by omega),rat_is ha,rat_is hb,subL,List.tail_drop,List.tail_drop]
  simp only [cond_true,Option.bind_some]
  generalize hdI (a.drop i)=x at *
  generalize hdI (b.drop i)=y at *
  rw [show IntKind.wrap .u64 (((y:Nat):Int) + (c:Int))=((y + c:Nat):Int) by rw [IntKind.wrap_u64];omega]
  have k:=ih (i + 1) (out ++ [(((4294967296 + x - y - c) % 4294967296:Nat):Int)]) (if x < y + c then 1 else 0) (by rw [List.length_append,List.length_singleton];omega) (by omega) (by split <;> omega)
  rw [List.append_assoc,List.singleton_append] at k
  by_cases h:x < y + c
  ·rw [dt' (by omega)]
   simp only [cond_true,Option.bind_some]
   rw [show IntKind.wrap .u32 (IntKind.wrap .u64 (IntKind.wrap .u64 ((x:Int) + 4294967296) - ((y + c:Nat):Int)))=(((4294967296 + x - y - c) % 4294967296:Nat):Int) by rw [IntKind.wrap_u64,IntKind.wrap_u64,IntKind.wrap_u32];omega]
   rw [dt' (by rw [List.length_cons,List.length_nil];omega),wrap64 (by omega) (by omega)]
   rw [if_pos h] at k ⊢
   exact k
  ·rw [df' (by omega)]
   simp only [cond_false,cond_true,Option.bind_some]
   rw [show IntKind.wrap .u32 (IntKind.wrap .u64 ((x:Int) - ((y + c:Nat):Int)))=(((4294967296 + x - y - c) % 4294967296:Nat):Int) by rw [IntKind.wrap_u64,IntKind.wrap_u32];omega]
   rw [dt' (by rw [List.length_cons,List.length_nil];omega),wrap64 (by omega) (by omega)]
   rw [if_neg h] at k ⊢
   exact k
theorem rsub_v {a b:List Int} (ha:Lb a) (hb:Lb b) (sa:Sz a) (h:val b ≤ val a):zN.V a b=some (limbs (val a - val b)):=by
 refine zN.v _ _ ?_
 unfold zN.b
 simp only
 rw [show zN.V0 a b [] 0 0=_ from rsub_l ha hb sa a.length 0 [] 0 rfl (by omega) (by omega),Option.bind_some]
 simp only [List.nil_append,List.drop_zero]
 unfold Sz at sa
 rw [rtrim_v (lb_subL _ _ _ _) (by rw [subL_len];omega),Option.bind_some]
 have hv:=val_subL a.length a b 0 ha hb (by omega) (Nat.le_refl _) (by omega)
 rw [show val (subL a.length a b 0)=val a - val b by omega]
theorem band1' (n:Nat):band .u64 (n:Int) 1=((n % 2:Nat):Int):=by
 show IntKind.wrap .u64 (((BitVec.ofInt 64 (n:Int) &&& BitVec.ofInt 64 ((1:Nat):Int)).toNat:Nat):Int)=_
 rw [BitVec.ofInt_natCast,BitVec.ofInt_natCast,BitVec.toNat_and,BitVec.toNat_ofNat,BitVec.toNat_ofNat,Nat.mod_eq_of_lt (show 1 < 2 ^ 64 by omega),Nat.and_one_is_mod,IntKind.wrap_u64]
 omega
theorem rbit_is {a:List Int} (ha:Lb a) {i:Nat} (hi:i ≤ 1073741824):xM.f a (i:Int)=some (decide (val a / 2 ^ i % 2=1)):=by
 unfold xM.f
 have hv:val a / 2 ^ i=val (a.drop (i / 32)) / 2 ^ (i % 32):=by rw [pow32 i,← Nat.div_div_eq_div_mul,val_div ha]
 have hd:=hdI_lt (ha.drop (i / 32))
 have hB:4294967296=2 ^ (i % 32) * (2 * 2 ^ (31 - i % 32)):=by
  rw [Nat.mul_comm 2,← Nat.pow_succ,← Nat.pow_add,show i % 32 + (31 - i % 32 + 1)=32 by omega]
 rw [dt' (by omega),tdiv32 i hi,tmod32,rat_is ha,u64n (by omega),hv,val_hd (a.drop (i / 32)),bit_arith (Nat.pow_pos (by omega)) hB]
 simp only [cond_true,Option.bind_some]
 rw [df' (by omega),shr_is (Nat.mod_lt _ (by omega)),band1']
 simp only [cond_false]
 congr 1
 rw [Bool.eq_iff_iff,beq_iff_eq,decide_eq_true_iff]
 omega
theorem rbits_l {a:List Int} (ha:Lb a):∀ i:Nat,i ≤ 1073741824→val a < 2 ^ i→zG.V0 a (i:Int)=some ((bitN (val a):Nat):Int)
 | 0,_,h=>by
  refine zG.v0 _ _ ?_
  unfold zG.b0
  rw [df' (by omega)]
  rw [Nat.pow_zero] at h
  rw [show val a=0 by omega]
  rfl
 | i + 1,hi,h=>by
  refine zG.v0 _ _ ?_
  unfold zG.b0
  rw [dt' (by omega),wrap64 (by omega) (by omega),show (((i + 1:Nat):Int) - 1)=(i:Int) by omega,rbit_is ha (by omega)]
  simp only [cond_true,Option.bind_some]
  by_cases hc:val a < 2 ^ i
  ·rw [Nat.div_eq_of_lt hc,df' (by omega)]
   exact rbits_l ha i (by omega) hc
  ·have h1:val a / 2 ^ i=1:=by
    have hp:0 < 2 ^ i:=Nat.pow_pos (by omega)
    have h2:val a / 2 ^ i < 2:=(Nat.div_lt_iff_lt_mul hp).2 (by rw [Nat.pow_succ] at h;omega)
    have h3:1 ≤ val a / 2 ^ i:=(Nat.le_div_iff_mul_le hp).2 (by omega)
    omega
   rw [h1,dt' (by omega)]
   have b1:=(bitN_le (val a) (i + 1)).2 h
   have b2:=mt (bitN_le (val a) i).1 hc
   rw [show bitN (val a)=i + 1 by omega]
   rfl
theorem rbits_v {a:List Int} (ha:Lb a) (sa:a.length ≤ 33554432):zG.V a=some ((bitN (val a):Nat):Int):=by
 refine zG.v _ ?_
 unfold zG.b
 rw [wrap64 (by omega) (by omega),show (32:Int) * ((a.length:Nat):Int)=((32 * a.length:Nat):Int) by omega,rbits_l ha _ (by omega) (by rw [pow_32];exact val_lt ha)]
 rfl
end Go.Proofs.YtlfcdmibknmjeaaGreatDoor.E
end
section
namespace Go.Proofs.YtlfcdmibknmjeaaGreatDoor.E
open Go Go.Proofs.YtlfcdmibknmjeaaGreatDoor.Ev
set_option linter.unusedSimpArgs false
theorem shl_is {s:Nat} (hs:s < 32) {x:Nat} (hx:x < 4294967296):shlI .u64 (x:Int) (s:Int)=((2 ^ s * x:Nat):Int):=by
 have h1:2 ^ s ≤ 2 ^ 31:=Nat.pow_le_pow_right (by omega) (by omega)
 have h2:2 ^ s * x ≤ 2 ^ 31 * 4294967295:=Nat.mul_le_mul h1 (by omega)
 show IntKind.wrap .u64 ((x:Int) * (2:Int) ^ min (Int.toNat (s:Int)) 64)=_
 rw [show min (Int.toNat (s:Int)) 64=s by omega,show (2:Int) ^ s=((2 ^ s:Nat):Int) by rw [Int.natCast_pow];rfl,← Int.natCast_mul,Nat.mul_comm x,u64n (by omega)]
theorem bor_is {s:Nat} {x c:Nat} (hc:c < 2 ^ s) (h:2 ^ s * x + c < 18446744073709551616):bor .u64 (c:Int) ((2 ^ s * x:Nat):Int)=((2 ^ s * x + c:Nat):Int):=by
 show IntKind.wrap .u64 (((BitVec.ofInt 64 (c:Int) ||| BitVec.ofInt 64 ((2 ^ s * x:Nat):Int)).toNat:Nat):Int)=_
 rw [BitVec.ofInt_natCast,BitVec.ofInt_natCast,BitVec.toNat_or,BitVec.toNat_ofNat,BitVec.toNat_ofNat,Nat.mod_eq_of_lt (by omega),Nat.mod_eq_of_lt (by omega),Nat.or_comm,← Nat.two_pow_add_eq_or_of_lt hc x,u64n h]
theorem rup_arith {B P S s x c T v:Nat} (h:s=S * x + c):v + P * (s % B + B * 0) + P * B * (T * S + s / B)=v + P * ((x + B * T) * S + c):=by
 have h1:=Nat.div_add_mod s B
 have e:s % B + B * 0 + B * (T * S + s / B)=(x + B * T) * S + c:=by
  rw [Nat.mul_zero,Nat.mul_add,Nat.add_mul,Nat.mul_comm x S,Nat.mul_assoc B]
  generalize s / B=q at *
  generalize s % B=r at *
  omega
 rw [← e,Nat.mul_add P (s % B + B * 0),Nat.mul_assoc P B,Nat.add_assoc]
theorem rup_l {a:List Int} (ha:Lb a) (sa:Sz a) {n:Nat}:∀ (m i:Nat) (out:List Int) (c:Nat),Lb out→m + i=a.length→c < 2 ^ (n % 32)→out.length + m ≤ 8589934592 →
 ∃ r c',zY.V0 a (n:Int) out (c:Int) (i:Int)=some (r,((c':Nat):Int))∧Lb r∧c' < 2 ^ (n % 32)∧r.length=out.length + m∧val r + 4294967296 ^ r.length * c'=val out + 4294967296 ^ out.length * (val (a.drop i) * 2 ^ (n % 32) + c):=by
 intro m
 unfold Sz at sa
 have hS:n % 32 < 32:=Nat.mod_lt _ (by omega)
 have h31:2 ^ (n % 32) ≤ 2 ^ 31:=Nat.pow_le_pow_right (by omega) (by omega)
 induction m with
 | zero =>
  intro i out c ho hm hc hl
  refine ⟨out,c,zY.v0 _ _ _ _ _ ?_,ho,hc,rfl,?_⟩
  ·unfold zY.b0
   rw [df' (by omega)]
   rfl
  ·rw [List.drop_eq_nil_of_le (by omega),val,Nat.zero_mul,Nat.zero_add]
 | succ m ih =>
  intro i out c ho hm hc hl
  have hx:=hdI_lt (ha.drop i)
  have hva:=val_hd (a.drop i)
  rw [List.tail_drop] at hva
  rw [hva]
  have hrd:=rd_hd ha (i:=i) (by omega)
  generalize hdI (a.drop i)=x at *
  have hb:2 ^ (n % 32) * x + c < 18446744073709551616:=by
   have h2:2 ^ (n % 32) * x ≤ 2 ^ 31 * 4294967295:=Nat.mul_le_mul h31 (by omega)
   omega
  obtain ⟨s,hs⟩:∃ s,s=2 ^ (n % 32) * x + c:=⟨_,rfl⟩
  have hc':s / 4294967296 < 2 ^ (n % 32):=by
   refine Nat.div_lt_of_lt_mul ?_
   have h3:2 ^ (n % 32) * x + 2 ^ (n % 32) ≤ 2 ^ (n % 32) * 4294967296:=by rw [← Nat.mul_succ];exact Nat.mul_le_mul_left _ (by omega)
   omega
  obtain ⟨r,c',k1,k2,k3,k4,k5⟩:=ih (i + 1) (out ++ [((s % 4294967296:Nat):Int)]) (s / 4294967296) (ho.app (.cons (by omega) .nil)) (by omega) hc' (by rw [List.length_append,List.length_singleton];omega)
  rw [List.length_append,List.length_singleton] at k4 k5
  refine ⟨r,c',zY.v0 _ _ _ _ _ ?_,k2,k3,by omega,?_⟩
  ·unfold zY.b0
   rw [dt' (by omega),dt' (by omega),tmod32,u64n (by omega),df' (by omega),hrd,u64n (by omega),shl_is hS hx,bor_is hc hb,← hs,u32n,shr32]
   simp only [cond_true,cond_false]
   rw [dt' (by rw [List.length_cons,List.length_nil];omega),wrap64 (by omega) (by omega)]
   exact k1
  ·rw [k5,val_app,val,val,Int.toNat_natCast,Nat.pow_succ]
   exact rup_arith hs
theorem rup_v {a:List Int} (ha:Lb a) (sa:Sz a) {n:Nat} (hn:n ≤ 1073741824):zY.V a (n:Int)=some (limbs (val a * 2 ^ n)):=by
 refine zY.v _ _ ?_
 unfold zY.b
 have sa':=sa
 unfold Sz at sa'
 have h31:2 ^ (n % 32) ≤ 2 ^ 31:=Nat.pow_le_pow_right (by omega) (by omega)
 have hp:0 < 2 ^ (n % 32):=Nat.pow_pos (by omega)
 obtain ⟨r,c',k1,k2,k3,k4,k5⟩:=rup_l ha sa (n:=n) a.length 0 (List.replicate (n / 32) 0) 0 (Lb.zeros _) (by omega) hp (by rw [List.length_replicate];omega)
 rw [List.length_replicate] at k4 k5
 rw [tdiv32 n hn,show IntKind.wrap .i64 (IntKind.wrap .i64 (((n / 32:Nat):Int) + ((a.length:Nat):Int)) + 1)=((n / 32 + a.length + 1:Nat):Int) by
  rw [show IntKind.wrap .i64 (((n / 32:Nat):Int) + ((a.length:Nat):Int))=((n / 32:Nat):Int) + ((a.length:Nat):Int) from wrap64 (by omega) (by omega),wrap64 (by omega) (by omega)];omega]
 rw [dt' (by omega),Int.toNat_natCast]
 simp only [cond_true]
 rw [show zY.V0 a (n:Int) (List.replicate (n / 32) 0) 0 0=_ from k1]
 simp only [Option.bind_some]
 rw [dt' (by rw [List.length_cons,List.length_nil];omega),u32n,Nat.mod_eq_of_lt (by omega)]
 simp only [cond_true]
 rw [rtrim_v (k2.app (.cons (by omega) .nil)) (by rw [List.length_append,List.length_singleton];omega),val_app,val,val,Int.toNat_natCast,Nat.mul_zero,Nat.add_zero,k5,val_zeros,List.drop_zero,Nat.zero_add,Nat.add_zero,pow32 n,Nat.mul_left_comm]
 rfl
theorem rdown_l {a:List Int} (ha:Lb a) (sa:Sz a) {n:Nat}:∀ (m i:Nat) (out:List Int),m + i=a.length→out.length ≤ i →
 zE.V0 a (n:Int) out (i:Int)=some (out ++ shrL (n % 32) (a.drop i)):=by
 intro m
 unfold Sz at sa
 have hS:n % 32 < 32:=Nat.mod_lt _ (by omega)
 induction m with
 | zero =>
  intro i out hm hl
  refine zE.v0 _ _ _ _ ?_
  unfold zE.b0
  rw [df' (by omega),List.drop_eq_nil_of_le (by omega),shrL,List.append_nil]
  rfl
 | succ m ih =>
  intro i out hm hl
  have hi:i < a.length:=by omega
  have h1:=hdI_lt (ha.drop (i + 1))
  have h0:=hdI_lt (ha.drop i)
  have hdr:a.drop i=((hdI (a.drop i):Nat):Int) :: a.drop (i + 1):=by
   rw [← rd_hd ha hi,List.drop_eq_getElem_cons hi]
   simp [rdL,List.getD_eq_getElem?_getD,List.getElem?_eq_getElem hi]
  have hsh:shrL (n % 32) (a.drop i)=(((4294967296 * hdI (a.drop (i + 1)) + hdI (a.drop i)) / 2 ^ (n % 32) % 4294967296:Nat):Int) :: shrL (n % 32) (a.drop (i + 1)):=by
   conv=>lhs;rw [hdr]
   rw [shrL,Int.toNat_natCast]
  have hbor:bor .u64 ((hdI (a.drop i):Nat):Int) (shlI .u64 ((hdI (a.drop (i + 1)):Nat):Int) 32)=((4294967296 * hdI (a.drop (i + 1)) + hdI (a.drop i):Nat):Int):=by
   rw [← pack h1 h0]
   show IntKind.wrap .u64 (((BitVec.ofInt 64 _ ||| BitVec.ofInt 64 _).toNat:Nat):Int)=IntKind.wrap .u64 (((BitVec.ofInt 64 _ ||| BitVec.ofInt 64 _).toNat:Nat):Int)
   rw [BitVec.or_comm]
  have hnx:(bif (decide (IntKind.wrap .i64 ((i:Int) + 1) < ((a.length:Nat):Int))) then (bif (decide ((0:Int) ≤ IntKind.wrap .i64 ((i:Int) + 1)∧IntKind.wrap .i64 ((i:Int) + 1) < ((a.length:Nat):Int))) then (some (a,((n:Int),(out,((i:Int),(bor .u64 (IntKind.wrap .u64 (rdL (0:Int) a (i:Int))) (shlI .u64 (IntKind.wrap .u64 (rdL (0:Int) a (IntKind.wrap .i64 ((i:Int) + 1)))) 32))))))) else none) else (some (a,((n:Int),(out,((i:Int),(IntKind.wrap .u64 (rdL (0:Int) a (i:Int)))))))))
   = some (a,((n:Int),(out,((i:Int),((4294967296 * hdI (a.drop (i + 1)) + hdI (a.drop i):Nat):Int))))):=by
   rw [wrap64 (by omega) (by omega),show ((i:Int) + 1)=((i + 1:Nat):Int) by omega,rd_hd ha hi,u64n (by omega)]
   by_cases hc:i + 1 < a.length
   ·rw [dt' (by omega),dt' (by omega),rd_hd ha hc,u64n (by omega),hbor]
    rfl
   ·rw [df' (by omega),show a.drop (i + 1)=[] from List.drop_eq_nil_of_le (by omega)]
    show some (a,((n:Int),(out,((i:Int),((hdI (a.drop i):Nat):Int)))))=some (a,((n:Int),(out,((i:Int),((4294967296 * 0 + hdI (a.drop i):Nat):Int)))))
    rw [Nat.mul_zero,Nat.zero_add]
  have k:=ih (i + 1) (out ++ [(((4294967296 * hdI (a.drop (i + 1)) + hdI (a.drop i)) / 2 ^ (n % 32) % 4294967296:Nat):Int)]) (by omega) (by rw [List.length_append,List.length_singleton];omega)
  rw [List.append_assoc,List.singleton_append,← hsh] at k
  refine zE.v0 _ _ _ _ ?_
  unfold zE.b0
  rw [dt' (by omega),dt' (by omega),hnx]
  simp only [cond_true,Option.bind_some]
  rw [tmod32,u64n (by omega),df' (by omega),shr_is hS,u32n,dt' (by rw [List.length_cons,List.length_nil];omega),wrap64 (by omega) (by omega)]
  exact k
theorem rdown_v {a:List Int} (ha:Lb a) (sa:Sz a) {n:Nat} (hn:n ≤ 1073741824):zE.V a (n:Int)=some (limbs (val a / 2 ^ n)):=by
 refine zE.v _ _ ?_
 unfold zE.b
 have sa':=sa
 unfold Sz at sa'
 simp only
 rw [tdiv32 n hn]
 have hv:val a / 2 ^ n=val (shrL (n % 32) (a.drop (n / 32))):=by
  rw [val_shrL (Nat.mod_lt _ (by omega)) (ha.drop _),← val_div ha,Nat.div_div_eq_div_mul,← pow32]
 have k:zE.V0 a (n:Int) [] ((n / 32:Nat):Int)=some ([] ++ shrL (n % 32) (a.drop (n / 32))):=by
  by_cases hc:n / 32 ≤ a.length
  ·exact rdown_l ha sa (a.length - n / 32) (n / 32) [] (by omega) (by simp)
  ·refine zE.v0 _ _ _ _ ?_
   unfold zE.b0
   rw [df' (by omega),List.drop_eq_nil_of_le (by omega)]
   rfl
 rw [k,Option.bind_some,List.nil_append,rtrim_v (lb_shrL _ _) (by rw [shrL_len,List.length_drop];omega),hv]
 rfl
theorem rsmall_l {a:List Int} (ha:Lb a) (sa:Sz a) {x:Nat} (hx:x < 4294967296):∀ (m i:Nat) (out:List Int) (c:Nat),Lb out→m + i=a.length→c < 4294967296→out.length=i →
 ∃ r c',zB.V0 a (x:Int) out (c:Int) (i:Int)=some (r,((c':Nat):Int))∧Lb r∧c' < 4294967296∧r.length=a.length∧val r + 4294967296 ^ r.length * c'=val out + 4294967296 ^ out.length * (val (a.drop i) * x + c):=by
 intro m
 unfold Sz at sa
 induction m with
 | zero =>
  intro i out c ho hm hc hl
  refine ⟨out,c,zB.v0 _ _ _ _ _ ?_,ho,hc,by omega,?_⟩
  ·unfold zB.b0
   rw [df' (by omega)]
   rfl
  ·rw [List.drop_eq_nil_of_le (by omega),val,Nat.zero_mul,Nat.zero_add]
 | succ m ih =>
  intro i out c ho hm hc hl
  have hy:=hdI_lt (ha.drop i)
  have hva:=val_hd (a.drop i)
  rw [List.tail_drop] at hva
  rw [hva]
  have hrd:=rd_hd ha (i:=i) (by omega)
  generalize hdI (a.drop i)=y at *
  have hp:=prod_lt hy hx
  obtain ⟨s,hs⟩:∃ s,s=x * y + c:=⟨_,rfl⟩
  rw [Nat.mul_comm] at hp
  obtain ⟨r,c',k1,k2,k3,k4,k5⟩:=ih (i + 1) (out ++ [((s % 4294967296:Nat):Int)]) (s / 4294967296) (ho.app (.cons (by omega) .nil)) (by omega) (by omega) (by rw [List.length_append,List.length_singleton];omega)
  rw [List.length_append,List.length_singleton] at k5
  refine ⟨r,c',zB.v0 _ _ _ _ _ ?_,k2,k3,k4,?_⟩
  ·unfold zB.b0
   have e:IntKind.wrap .u64 ((c:Int) + IntKind.wrap .u64 (((y:Nat):Int) * (x:Int)))=((s:Nat):Int):=by
    rw [← Int.natCast_mul,Nat.mul_comm y,u64n (by omega),← Int.natCast_add,u64n (by omega),hs,Nat.add_comm]
   rw [dt' (by omega),dt' (by omega),hrd,u64n (n:=y) (by omega),u64n (n:=x) (by omega),e,u32n,shr32,dt' (by rw [List.length_cons,List.length_nil];omega),wrap64 (by omega) (by omega)]
   exact k1
  ·rw [k5,val_app,val,val,Int.toNat_natCast,Nat.pow_succ]
   exact rup_arith hs
theorem rsmall_v {a:List Int} (ha:Lb a) (sa:Sz a) {x:Nat} (hx:x < 4294967296):zB.V a (x:Int)=some (limbs (val a * x)):=by
 refine zB.v _ _ ?_
 unfold zB.b
 obtain ⟨r,c',k1,k2,k3,k4,k5⟩:=rsmall_l ha sa hx a.length 0 [] 0 .nil (by omega) (by omega) rfl
 unfold Sz at sa
 simp only
 rw [show zB.V0 a (x:Int) [] 0 0=_ from k1]
 simp only [Option.bind_some]
 rw [dt' (by rw [List.length_cons,List.length_nil];omega),u32n,Nat.mod_eq_of_lt (by omega)]
 simp only [cond_true]
 rw [rtrim_v (k2.app (.cons (by omega) .nil)) (by rw [List.length_append,List.length_singleton];omega),val_app,val,val,Int.toNat_natCast,Nat.mul_zero,Nat.add_zero,k5]
 simp [val]
end Go.Proofs.YtlfcdmibknmjeaaGreatDoor.E
end
section
namespace Go.Proofs.YtlfcdmibknmjeaaGreatDoor.E
open Go Go.Proofs.YtlfcdmibknmjeaaGreatDoor.Ev
set_option linter.unusedSimpArgs false
theorem limbs_lt (n:Nat):n < 4294967296 ^ (limbs n).length:=(limbs_len n _).1 (Nat.le_refl _)
theorem len_add (p q:Nat):(limbs (p + q)).length ≤ max (limbs p).length (limbs q).length + 1:=(limbs_len _ _).2 (by
 have h1:=Nat.lt_of_lt_of_le (limbs_lt p) (pow_mono (show (limbs p).length ≤ max (limbs p).length (limbs q).length by omega))
 have h2:=Nat.lt_of_lt_of_le (limbs_lt q) (pow_mono (show (limbs q).length ≤ max (limbs p).length (limbs q).length by omega))
 rw [Nat.pow_succ]
 generalize 4294967296 ^ max (limbs p).length (limbs q).length=P at *
 omega)
theorem len_mul (p q:Nat):(limbs (p * q)).length ≤ (limbs p).length + (limbs q).length:=(limbs_len _ _).2 (by
 rw [Nat.pow_add]
 exact Nat.mul_lt_mul'' (limbs_lt p) (limbs_lt q))
theorem len_up (p i:Nat):(limbs (p * 2 ^ (32 * i))).length ≤ (limbs p).length + i:=(limbs_len _ _).2 (by
 rw [Nat.pow_add,pow_32]
 exact Nat.mul_lt_mul_of_pos_right (limbs_lt p) (Nat.pow_pos (by omega)))
theorem rmul_arith {B P va x T r:Nat}:r + va * x * P + va * (P * B * T)=r + va * (P * (x + B * T)):=by
 rw [Nat.mul_add P,Nat.mul_add va,Nat.add_assoc,Nat.mul_assoc P B,Nat.mul_assoc va x,Nat.mul_comm x P]
theorem len1 {x:Nat} (h:x < 4294967296):(limbs x).length ≤ 1:=(limbs_len x 1).2 (by rw [Nat.pow_one];exact h)
theorem rmul_l {a b:List Int} (ha:Lb a) (hb:Lb b) (sa:a.length ≤ 1000000) (sb:b.length ≤ 1000000):∀ (m i r:Nat),m + i=b.length→(limbs r).length ≤ a.length + 2 * i →
 zL.V0 a b (limbs r) (i:Int)=some (limbs (r + val a * (4294967296 ^ i * val (b.drop i)))):=by
 intro m
 induction m with
 | zero =>
  intro i r hm hl
  refine zL.v0 _ _ _ _ ?_
  unfold zL.b0
  rw [df' (by omega),List.drop_eq_nil_of_le (by omega),val,Nat.mul_zero,Nat.mul_zero,Nat.add_zero]
  rfl
 | succ m ih =>
  intro i r hm hl
  have hx:=hdI_lt (hb.drop i)
  have hvb:=val_hd (b.drop i)
  rw [List.tail_drop] at hvb
  have hrd:=rd_hd hb (i:=i) (by omega)
  refine zL.v0 _ _ _ _ ?_
  unfold zL.b0
  rw [dt' (by omega),dt' (by omega),hrd,hvb]
  generalize hdI (b.drop i)=x at *
  have la:(limbs (val a)).length ≤ a.length:=used_le ha
  have l1:=len_mul (val a) x
  have l2:=len1 hx
  have l3:=len_up (val a * x) i
  have l4:=len_add r (val a * x * 2 ^ (32 * i))
  rw [rsmall_v ha (by unfold Sz;omega) hx,Option.bind_some]
  simp only [cond_true,Option.bind_some]
  rw [wrap64 (by omega) (by omega),show (32:Int) * (i:Int)=((32 * i:Nat):Int) by omega,rup_v (lb_limbs _) (by unfold Sz;omega) (by omega),val_limbs,Option.bind_some,radd_v (lb_limbs _) (lb_limbs _) (by unfold Sz;omega) (by unfold Sz;omega),val_limbs,val_limbs,Option.bind_some,wrap64 (by omega) (by omega)]
  have k:=ih (i + 1) (r + val a * x * 2 ^ (32 * i)) (by omega) (by omega)
  rw [show ((i:Int) + 1)=((i + 1:Nat):Int) by omega,k,pow_32,Nat.pow_succ,rmul_arith]
theorem rmul_v {a b:List Int} (ha:Lb a) (hb:Lb b) (sa:a.length ≤ 1000000) (sb:b.length ≤ 1000000):zL.V a b=some (limbs (val a * val b)):=by
 refine zL.v _ _ ?_
 unfold zL.b
 have k:=rmul_l ha hb sa sb b.length 0 0 (by omega) (by rw [limbs_zero,List.length_nil];omega)
 rw [limbs_zero,List.drop_zero,Nat.pow_zero,Nat.one_mul,Nat.zero_add] at k
 have la:(limbs (val a)).length ≤ a.length:=used_le ha
 have lb:(limbs (val b)).length ≤ b.length:=used_le hb
 have l1:=len_mul (val a) (val b)
 simp only
 rw [show zL.V0 a b [] 0=_ from k,Option.bind_some,rtrim_v (lb_limbs _) (by omega),val_limbs]
 rfl
theorem bor32_is {s h:Nat} (hs:s < 32) (hh:h < 4294967296) (hm:h % 2 ^ (s + 1)=0):bor .u32 (h:Int) ((2 ^ s:Nat):Int)=((h + 2 ^ s:Nat):Int)∧h + 2 ^ s < 4294967296:=by
 have h31:2 ^ s ≤ 2 ^ 31:=Nat.pow_le_pow_right (by omega) (by omega)
 obtain ⟨m,hm⟩:=Nat.dvd_of_mod_eq_zero hm
 have hor:h ||| 2 ^ s=h + 2 ^ s:=by
  rw [hm,← Nat.two_pow_add_eq_or_of_lt (Nat.pow_lt_pow_right (by omega) (by omega)) m]
 have hlt:h ||| 2 ^ s < 2 ^ 32:=Nat.or_lt_two_pow (by omega) (by omega)
 rw [hor] at hlt
 refine ⟨?_,by omega⟩
 show IntKind.wrap .u32 (((BitVec.ofInt 32 (h:Int) ||| BitVec.ofInt 32 ((2 ^ s:Nat):Int)).toNat:Nat):Int)=_
 rw [BitVec.ofInt_natCast,BitVec.ofInt_natCast,BitVec.toNat_or,BitVec.toNat_ofNat,BitVec.toNat_ofNat,Nat.mod_eq_of_lt (by omega),Nat.mod_eq_of_lt (by omega),hor,u32n,Nat.mod_eq_of_lt (by omega)]
theorem val_set:∀ (q:List Int) (k d:Nat),k < q.length→val (q.set k (d:Int)) + 4294967296 ^ k * hdI (q.drop k)=val q + 4294967296 ^ k * d
 | [],k,d,h=>absurd h (by simp)
 | x :: q,0,d,_=>by
  rw [List.set_cons_zero,val,val,Nat.pow_zero,Nat.one_mul,Nat.one_mul,List.drop_zero,Int.toNat_natCast]
  show d + 4294967296 * val q + x.toNat=_
  omega
 | x :: q,k + 1,d,h=>by
  have ih:=val_set q k d (by simpa using h)
  rw [List.set_cons_succ,val,val,List.drop_succ_cons,Nat.pow_succ,Nat.mul_comm (4294967296 ^ k) 4294967296,Nat.mul_assoc,Nat.mul_assoc]
  generalize 4294967296 ^ k * hdI (q.drop k)=u at *
  generalize 4294967296 ^ k * d=v at *
  omega
theorem mod_hd {B S C T h X m:Nat} (hB:B=S * C) (hX:X=h + B * T) (hm:X=S * m):h % S=0:=by
 have h1:(h + S * (C * T)) % S=h % S:=Nat.add_mul_mod_self_left _ _ _
 rw [← Nat.mul_assoc,← hB,← hX,hm,Nat.mul_mod_right] at h1
 exact h1.symm
theorem setbit {q:List Int} (hq:Lb q) {j:Nat} (hj:j < 32 * q.length) (hv:val q % 2 ^ (j + 1)=0) :
 ∃ d:Nat,bor .u32 (rdL (0:Int) q ((j / 32:Nat):Int)) ((2 ^ (j % 32):Nat):Int)=((d:Nat):Int)∧d < 4294967296∧val (q.set (j / 32) (d:Int))=val q + 2 ^ j:=by
 have hs:j % 32 < 32:=Nat.mod_lt _ (by omega)
 have hk:j / 32 < q.length:=by omega
 have hh:=hdI_lt (hq.drop (j / 32))
 have hd:hdI (q.drop (j / 32)) % 2 ^ (j % 32 + 1)=0:=by
  obtain ⟨m,hm⟩:=Nat.dvd_of_mod_eq_zero hv
  have h1:=val_div hq (j / 32)
  have e:2 ^ (j + 1)=4294967296 ^ (j / 32) * 2 ^ (j % 32 + 1):=by rw [Nat.pow_succ,pow32 j,Nat.pow_succ,Nat.mul_assoc]
  rw [hm,e,Nat.mul_assoc,Nat.mul_div_cancel_left _ (Nat.pow_pos (by omega))] at h1
  exact mod_hd (C:=2 ^ (31 - j % 32)) (by rw [← Nat.pow_add,show j % 32 + 1 + (31 - j % 32)=32 by omega]) (val_hd _) h1.symm
 obtain ⟨b1,b2⟩:=bor32_is hs hh hd
 refine ⟨_,by rw [rd_hd hq hk];exact b1,b2,?_⟩
 have h2:=val_set q (j / 32) (hdI (q.drop (j / 32)) + 2 ^ (j % 32)) hk
 rw [Nat.mul_add,← pow32] at h2
 omega
theorem rrem_l (ok:Bool) {d:Nat} (hd:0 < d):∀ (j L:Nat) (q:List Int),L < d * 2 ^ j→Lb q→j ≤ 32 * q.length→q.length ≤ 33554432→val q % 2 ^ j=0→(limbs (d * 2 ^ j)).length ≤ 33554432 →
 ∃ q',zJ.V0 ok (limbs L) q (limbs (d * 2 ^ j / 2)) ((j:Int) - 1)=some (ok,(limbs (L % d),q'))∧Lb q'∧q'.length=q.length∧val q'=val q + L / d:=by
 intro j
 induction j with
 | zero =>
  intro L q hL hq hjl hql hv hsz
  rw [Nat.pow_zero,Nat.mul_one] at hL
  refine ⟨q,zJ.v0 _ _ _ _ _ ?_,hq,rfl,?_⟩
  ·unfold zJ.b0
   rw [df' (by omega),Nat.mod_eq_of_lt hL]
   rfl
  ·rw [Nat.div_eq_of_lt hL,Nat.add_zero]
 | succ j ih =>
  intro L q hL hq hjl hql hv hsz
  have e2:d * 2 ^ (j + 1) / 2=d * 2 ^ j:=by rw [Nat.pow_succ,← Nat.mul_assoc,Nat.mul_div_cancel _ (by omega)]
  have hle:d * 2 ^ j ≤ d * 2 ^ (j + 1):=Nat.mul_le_mul_left d (Nat.pow_le_pow_right (by omega) (by omega))
  have hLl:(limbs L).length ≤ 33554432:=Nat.le_trans (len_mono (Nat.le_of_lt hL)) hsz
  have hxl:(limbs (d * 2 ^ j)).length ≤ 33554432:=Nat.le_trans (len_mono hle) hsz
  have e3:d * 2 ^ (j + 1)=2 * (d * 2 ^ j):=by rw [Nat.pow_succ,← Nat.mul_assoc,Nat.mul_comm]
  have hvj:val q % 2 ^ j=0:=Nat.mod_eq_zero_of_dvd (Nat.dvd_trans ⟨2,by rw [Nat.pow_succ]⟩ (Nat.dvd_of_mod_eq_zero hv))
  rw [e2,show (((j + 1:Nat):Int) - 1)=(j:Int) by omega]
  have hcmp:=rcmp_v (lb_limbs L) (lb_limbs (d * 2 ^ j)) (by unfold Sz;omega) (by unfold Sz;omega)
  rw [val_limbs,val_limbs] at hcmp
  have hdown:=rdown_v (lb_limbs (d * 2 ^ j)) (by unfold Sz;omega) (n:=1) (by omega)
  rw [val_limbs,Nat.pow_one] at hdown
  by_cases hc:d * 2 ^ j ≤ L
  ·obtain ⟨c,s1,s2,s3⟩:=setbit hq (j:=j) (by omega) hv
   have hq2:Lb (q.set (j / 32) (c:Int)):=fun x hx=>by
    rcases List.mem_or_eq_of_mem_set hx with h | h
    ·exact hq x h
    ·omega
   obtain ⟨q',k1,k2,k3,k4⟩:=ih (L - d * 2 ^ j) (q.set (j / 32) (c:Int)) (by omega) hq2 (by rw [List.length_set];omega) (by rw [List.length_set];omega) (by rw [s3,Nat.add_mod_right];exact hvj) hxl
   rw [List.length_set] at k3
   rw [s3] at k4
   have eL:L=(L - d * 2 ^ j) + d * 2 ^ j:=by omega
   refine ⟨q',zJ.v0 _ _ _ _ _ ?_,k2,k3,?_⟩
   ·unfold zJ.b0
    have hci:cmpI L (d * 2 ^ j) ≥ 0:=by unfold cmpI;rw [if_neg (by omega)];split <;> omega
    have hsub:=rsub_v (lb_limbs L) (lb_limbs (d * 2 ^ j)) (by unfold Sz;omega) (by rw [val_limbs,val_limbs];exact hc)
    rw [val_limbs,val_limbs] at hsub
    rw [dt' (by omega),hcmp]
    simp only [cond_true,Option.bind_some]
    rw [dt' hci,hsub]
    simp only [cond_true,Option.bind_some]
    rw [tdiv32 j (by omega),dt' (by omega),tmod32,u64n (by omega),df' (by omega),shl1 _ (Nat.mod_lt _ (by omega)),s1,show zE.V (limbs (d * 2 ^ j)) 1=_ from hdown]
    simp only [cond_true,cond_false,Option.bind_some]
    rw [wrap64 (by omega) (by omega),Int.toNat_natCast,k1]
    conv=>rhs;rw [eL,Nat.add_mul_mod_self_left]
   ·rw [k4]
    conv=>rhs;rw [eL,Nat.add_mul_div_left _ _ hd]
    omega
  ·obtain ⟨q',k1,k2,k3,k4⟩:=ih L q (by omega) hq (by omega) hql hvj hxl
   refine ⟨q',zJ.v0 _ _ _ _ _ ?_,k2,k3,k4⟩
   unfold zJ.b0
   have hci:¬ cmpI L (d * 2 ^ j) ≥ 0:=by unfold cmpI;rw [if_pos (by omega)];omega
   rw [dt' (by omega),hcmp]
   simp only [cond_true,Option.bind_some]
   rw [df' hci,show zE.V (limbs (d * 2 ^ j)) 1=_ from hdown]
   simp only [cond_false,Option.bind_some]
   rw [wrap64 (by omega) (by omega),k1]
theorem bitN_zero (n:Nat):bitN n=0 ↔ n=0:=by
 have:=bitN_le n 0
 rw [Nat.pow_zero] at this
 omega
theorem len_shift {d n k l:Nat} (hk:d < 4294967296 ^ k) (hl:n ≤ 32 * l):(limbs (d * 2 ^ n)).length ≤ k + l:=(limbs_len _ _).2 (by
 rw [Nat.pow_add,← pow_32 l]
 exact Nat.lt_of_lt_of_le (Nat.mul_lt_mul_of_pos_right hk (Nat.pow_pos (by omega))) (Nat.mul_le_mul_left _ (Nat.pow_le_pow_right (by omega) hl)))
theorem rrem_v {a b:List Int} (ha:Lb a) (hb:Lb b) (sa:a.length ≤ 1000000) (sb:b.length ≤ 1000000):zJ.V a b=some (if val b=0 then ([],([],false)) else (limbs (val a / val b),(limbs (val a % val b),true))):=by
 refine zJ.v _ _ ?_
 unfold zJ.b
 rw [rbits_v hb (by omega),rbits_v ha (by omega),rtrim_v ha (by omega)]
 simp only [Option.bind_some]
 rcases Nat.eq_zero_or_pos (val b) with h0 | h0
 ·rw [if_pos h0,(bitN_zero _).2 h0]
  rfl
 ·rw [if_neg (by omega)]
  have hbz:=mt (bitN_zero (val b)).1 (by omega)
  have la:=(bitN_le (val a) (32 * a.length)).2 (by rw [pow_32];exact val_lt ha)
  have lb:=(bitN_le (val b) (32 * b.length)).2 (by rw [pow_32];exact val_lt hb)
  rw [show (((bitN (val b):Nat):Int) == 0)=false by rw [beq_eq_false_iff_ne];omega]
  have hn:mxI 0 (IntKind.wrap .i64 (((bitN (val a):Nat):Int) - ((bitN (val b):Nat):Int)))=((bitN (val a) - bitN (val b):Nat):Int):=by
   rw [wrap64 (by omega) (by omega)]
   unfold mxI
   split <;> omega
  rw [hn]
  have hlow:2 ^ (bitN (val b) - 1) ≤ val b:=by
   have:=mt (bitN_le (val b) (bitN (val b) - 1)).2 (by omega)
   omega
  have hhigh:=(bitN_le (val a) (bitN (val a))).1 (Nat.le_refl _)
  obtain ⟨n,hne⟩:∃ n,n=bitN (val a) - bitN (val b):=⟨_,rfl⟩
  rw [← hne]
  have hlt:val a < val b * 2 ^ (n + 1):=by
   refine Nat.lt_of_lt_of_le hhigh (Nat.le_trans ?_ (Nat.mul_le_mul_right _ hlow))
   rw [← Nat.pow_add]
   exact Nat.pow_le_pow_right (by omega) (by omega)
  have hdl:=len_shift (val_lt hb) (show n + 1 ≤ 32 * (a.length + 1) by omega)
  rw [tdiv32 n (by omega),wrap64 (by omega) (by omega),show (((n / 32:Nat):Int) + 1)=((n / 32 + 1:Nat):Int) by omega,dt' (by omega),rup_v hb (by unfold Sz;omega) (by omega),Int.toNat_natCast]
  simp only [cond_true,cond_false,Option.bind_some]
  obtain ⟨q',k1,k2,k3,k4⟩:=rrem_l ((Ty.zero (.pair .bool .unit)).1) h0 (n + 1) (val a) (List.replicate (n / 32 + 1) 0) hlt (Lb.zeros _) (by rw [List.length_replicate];omega) (by rw [List.length_replicate];omega) (by rw [val_zeros,Nat.zero_mod]) (by omega)
  rw [show val b * 2 ^ (n + 1) / 2=val b * 2 ^ n by rw [Nat.pow_succ,← Nat.mul_assoc,Nat.mul_div_cancel _ (by omega)],show (((n + 1:Nat):Int) - 1)=(n:Int) by omega] at k1
  rw [List.length_replicate] at k3
  rw [val_zeros,Nat.zero_add] at k4
  rw [k1,Option.bind_some]
  simp only
  rw [rtrim_v k2 (by omega),k4]
  rfl
theorem rgcd_l:∀ (m x y:Nat),y < m→(limbs x).length ≤ 1000000→(limbs y).length ≤ 1000000→zP.V0 (limbs x) (limbs y)=some (limbs (Nat.gcd y x))
 | 0,_,_,h,_,_=>absurd h (by omega)
 | m + 1,x,y,h,sx,sy=>by
  refine zP.v0 _ _ ?_
  unfold zP.b0
  rcases Nat.eq_zero_or_pos y with h0 | h0
  ·subst h0
   rw [limbs_zero,df' (by simp),Nat.gcd_zero_left]
   rfl
  ·have hl:0 < (limbs y).length:=by rw [limbs_pos h0];exact Nat.succ_pos _
   have hr:=Nat.mod_lt x h0
   rw [dt' (by omega),rrem_v (lb_limbs x) (lb_limbs y) sx sy,val_limbs,val_limbs,if_neg (by omega)]
   simp only [cond_true,Option.bind_some]
   rw [rgcd_l m y (x % y) (by omega) sy (Nat.le_trans (len_mono (Nat.le_of_lt hr)) sy),← Nat.gcd_rec]
theorem rgcd_v {a b:List Int} (ha:Lb a) (hb:Lb b) (sa:a.length ≤ 1000000) (sb:b.length ≤ 1000000):zP.V a b=some (limbs (Nat.gcd (val a) (val b))):=by
 refine zP.v _ _ ?_
 unfold zP.b
 have la:(limbs (val a)).length ≤ a.length:=used_le ha
 have lb:(limbs (val b)).length ≤ b.length:=used_le hb
 rw [rtrim_v ha (by omega),rtrim_v hb (by omega),Option.bind_some,Option.bind_some,rgcd_l (val b + 1) (val a) (val b) (by omega) (by omega) (by omega),Nat.gcd_comm]
 rfl
end Go.Proofs.YtlfcdmibknmjeaaGreatDoor.E
end
section
namespace Go.Proofs.YtlfcdmibknmjeaaGreatDoor.E
open Go Go.Proofs.YtlfcdmibknmjeaaGreatDoor.Ev
set_option linter.unusedSimpArgs false
theorem rmake_v (neg:Bool) {a:List Int} (ha:Lb a) (sa:a.length ≤ 4294967296):zZ.V neg a=some (wI (sgn neg (val a))):=by
 refine zZ.v _ _ ?_
 unfold zZ.b
 rw [rtrim_v ha sa,wI_sgn]
 simp only [Option.bind_some]
 cases neg
 ·rfl
 ·have e:(decide ((((limbs (val a)).length:Nat):Int) > 0))=decide (0 < val a):=decide_eq_decide.2 (by
   rcases Nat.eq_zero_or_pos (val a) with h | h
   ·rw [h,limbs_zero];simp
   ·rw [limbs_pos h,List.length_cons];omega)
  rw [e]
  rfl
theorem rwtrim_v (n:Bool) {a:List Int} (ha:Lb a) (sa:a.length ≤ 4294967296):yA.V (n,(a,()))=some (wI (sgn n (val a))):=by
 refine yA.v _ ?_
 unfold yA.b
 rw [show zZ.V ((n,(a,())):Bool × List Int × Unit).1 ((n,(a,())):Bool × List Int × Unit).2.1=_ from rmake_v n ha sa]
 rfl
theorem rwneg_v (n:Bool) {a:List Int} (ha:Lb a) (sa:a.length ≤ 4294967296):xY.V (n,(a,()))=some (wI (-sgn n (val a))):=by
 refine xY.v _ ?_
 unfold xY.b
 rw [show zZ.V (!((n,(a,())):Bool × List Int × Unit).1) ((n,(a,())):Bool × List Int × Unit).2.1=_ from rmake_v (!n) ha sa,sgn_not]
 rfl
theorem rwof_v {z:Int} (h1:-9223372036854775808 ≤ z) (h2:z < 9223372036854775808):xw.V z=some (wI z):=by
 refine xw.v _ ?_
 unfold xw.b
 have hl:(limbs z.natAbs).length ≤ 2:=(limbs_len _ 2).2 (by omega)
 by_cases h:z < 0
 ·rw [dt' h,show IntKind.wrap .u64 (IntKind.wrap .u64 (IntKind.wrap .i64 (0 - IntKind.wrap .i64 (z + 1))) + 1)=((z.natAbs:Nat):Int) by rw [wrap64 (n:=z + 1) (by omega) (by omega),wrap64 (by omega) (by omega),IntKind.wrap_u64,IntKind.wrap_u64];omega,rof_v (by omega)]
  simp only [cond_true,Option.bind_some]
  rw [rmake_v true (lb_limbs _) (by omega),val_limbs,show sgn true z.natAbs=z by unfold sgn;rw [if_pos rfl];omega]
  rfl
 ·rw [df' h,show IntKind.wrap .u64 z=((z.natAbs:Nat):Int) by rw [IntKind.wrap_u64];omega,rof_v (by omega)]
  simp only [cond_false,Option.bind_some]
  rw [rmake_v false (lb_limbs _) (by omega),val_limbs,show sgn false z.natAbs=z by unfold sgn;rw [if_neg (by decide)];omega]
  rfl
def W (z:Int):Bool × List Int × Unit:=(decide (z < 0),(limbs z.natAbs,()))
theorem sgn_W (z:Int):sgn (decide (z < 0)) (val (limbs z.natAbs))=z:=by rw [val_limbs,sgn_abs]
theorem rwmul_v (n n':Bool) {a b:List Int} (ha:Lb a) (hb:Lb b) (sa:a.length ≤ 1000000) (sb:b.length ≤ 1000000):yE.V (n,(a,())) (n',(b,()))=some (wI (sgn n (val a) * sgn n' (val b))):=by
 refine yE.v _ _ ?_
 unfold yE.b
 have la:(limbs (val a)).length ≤ a.length:=used_le ha
 have lb:(limbs (val b)).length ≤ b.length:=used_le hb
 have l1:=len_mul (val a) (val b)
 rw [rwtrim_v n ha (by omega),rwtrim_v n' hb (by omega),Option.bind_some,Option.bind_some]
 rw [show zL.V ((n,(a,())):Bool × List Int × Unit).2.1 ((n',(b,())):Bool × List Int × Unit).2.1=_ from rmul_v ha hb sa sb,Option.bind_some]
 simp only [wI_fst]
 have ez:=sgn_abs (sgn n (val a))
 have ew:=sgn_abs (sgn n' (val b))
 rw [abs_sgn] at ez ew
 rw [rmake_v _ (lb_limbs _) (by omega),val_limbs,sgn_mul,ez,ew]
 rfl
theorem rwcmp_v (n n':Bool) {a b:List Int} (ha:Lb a) (hb:Lb b) (sa:a.length ≤ 500000000) (sb:b.length ≤ 500000000):xX.V (n,(a,())) (n',(b,()))=some (cmpZ (sgn n (val a)) (sgn n' (val b))):=by
 refine xX.v _ _ ?_
 unfold xX.b
 have la:(limbs (val a)).length ≤ a.length:=used_le ha
 have lb:(limbs (val b)).length ≤ b.length:=used_le hb
 rw [rwtrim_v n ha (by omega),rwtrim_v n' hb (by omega),Option.bind_some,Option.bind_some]
 simp only [wI_fst,wI_snd]
 have hp:(limbs (sgn n (val a)).natAbs).length ≤ 500000000:=by rw [abs_sgn];omega
 have hq:(limbs (sgn n' (val b)).natAbs).length ≤ 500000000:=by rw [abs_sgn];omega
 generalize sgn n (val a)=z at hp ⊢
 generalize sgn n' (val b)=w at hq ⊢
 have zp:Sz (limbs z.natAbs):=by unfold Sz;omega
 have zq:Sz (limbs w.natAbs):=by unfold Sz;omega
 have c1:=rcmp_v (lb_limbs w.natAbs) (lb_limbs z.natAbs) zq zp
 have c2:=rcmp_v (lb_limbs z.natAbs) (lb_limbs w.natAbs) zp zq
 rw [val_limbs,val_limbs] at c1 c2
 by_cases h1:z < 0
 ·by_cases h2:w < 0
  ·rw [dt' h1,dt' h2,c1]
   simp only [Bool.not_true,cond_true,cond_false,Option.bind_some,Sum.elim_inr]
   congr 1
   unfold cmpI cmpZ
   split <;> split <;> (try split) <;> (try split) <;> omega
  ·rw [dt' h1,df' h2]
   simp only [Bool.not_true,Bool.not_false,cond_true,cond_false,Option.bind_some,Sum.elim_inr]
   congr 1
   unfold cmpZ
   rw [if_pos (by omega)]
 ·by_cases h2:w < 0
  ·rw [df' h1,dt' h2]
   simp only [Bool.not_true,Bool.not_false,cond_true,cond_false,Option.bind_some,Sum.elim_inr]
   congr 1
   unfold cmpZ
   rw [if_neg (by omega),if_pos (by omega)]
  ·rw [df' h1,df' h2]
   simp only [Bool.not_true,Bool.not_false,cond_true,cond_false,Option.bind_some,Sum.elim_inr,Sum.elim_inl]
   rw [c2]
   rw [Option.bind_some]
   congr 1
   unfold cmpI cmpZ
   split <;> split <;> (try split) <;> (try split) <;> omega
theorem rwadd_v (n n':Bool) {a b:List Int} (ha:Lb a) (hb:Lb b) (sa:a.length ≤ 500000000) (sb:b.length ≤ 500000000):xZ.V (n,(a,())) (n',(b,()))=some (wI (sgn n (val a) + sgn n' (val b))):=by
 refine xZ.v _ _ ?_
 unfold xZ.b
 have la:(limbs (val a)).length ≤ a.length:=used_le ha
 have lb:(limbs (val b)).length ≤ b.length:=used_le hb
 rw [rwtrim_v n ha (by omega),rwtrim_v n' hb (by omega),Option.bind_some,Option.bind_some]
 simp only [wI_fst,wI_snd,abs_sgn]
 have ez:=sgn_abs (sgn n (val a))
 have ew:=sgn_abs (sgn n' (val b))
 rw [abs_sgn] at ez ew
 generalize decide (sgn n (val a) < 0)=d at ez ⊢
 generalize decide (sgn n' (val b) < 0)=d' at ew ⊢
 rw [← ez,← ew]
 clear ez ew
 generalize val a=p at la ⊢
 generalize val b=q at lb ⊢
 have hp:Sz (limbs p):=by unfold Sz;omega
 have hq:Sz (limbs q):=by unfold Sz;omega
 have c2:=rcmp_v (lb_limbs p) (lb_limbs q) hp hq
 rw [val_limbs,val_limbs] at c2
 cases hd:d == d'
 ·rw [c2]
  by_cases h:p < q
  ·have hl:=len_mono (Nat.sub_le q p)
   have hd':(d' == d)=false:=by cases d <;> cases d' <;> first | rfl | cases hd
   have hs:=rsub_v (lb_limbs q) (lb_limbs p) hq (by rw [val_limbs,val_limbs];omega)
   rw [val_limbs,val_limbs] at hs
   have hc:¬ cmpI p q ≥ 0:=by unfold cmpI;rw [if_pos h];omega
   simp only [cond_false,Option.bind_some]
   rw [df' hc,hs]
   simp only [cond_false,Option.bind_some]
   rw [rmake_v d' (lb_limbs _) (by omega),val_limbs,sgn_sub hd' (Nat.le_of_lt h),Int.add_comm]
   rfl
  ·have hl:=len_mono (Nat.sub_le p q)
   have hs:=rsub_v (lb_limbs p) (lb_limbs q) hp (by rw [val_limbs,val_limbs];omega)
   rw [val_limbs,val_limbs] at hs
   have hc:cmpI p q ≥ 0:=by unfold cmpI;rw [if_neg h];split <;> omega
   simp only [cond_false,Option.bind_some]
   rw [dt' hc,hs]
   simp only [cond_true,Option.bind_some]
   rw [rmake_v d (lb_limbs _) (by omega),val_limbs,sgn_sub hd (by omega)]
   rfl
 ·have hdd:d=d':=by simpa using hd
  subst hdd
  have hl:=len_add p q
  have hs:=radd_v (lb_limbs p) (lb_limbs q) hp hq
  rw [val_limbs,val_limbs] at hs
  rw [hs]
  simp only [cond_true,Option.bind_some]
  rw [rmake_v d (lb_limbs _) (by omega),val_limbs,sgn_add]
  rfl
end Go.Proofs.YtlfcdmibknmjeaaGreatDoor.E
end
section
namespace Go.Proofs.YtlfcdmibknmjeaaGreatDoor.E
open Go Go.Proofs.YtlfcdmibknmjeaaGreatDoor.Ev
set_option linter.unusedSimpArgs false
theorem W_nat (n:Nat):W (n:Int)=(false,(limbs n,())):=by unfold W;rw [df' (by omega),Int.natAbs_natCast]
def R (z:Int) (d:Nat):RA:=(W z,(limbs d,()))
def R0:RA:=((false,([],())),([],()))
def Can (z:Int) (d:Nat):Prop:=0 < d∧Nat.gcd z.natAbs d=1∧(limbs z.natAbs).length ≤ 64∧(limbs d).length ≤ 64
theorem trimmed_is {a:List Int} (ha:Lb a) (hs:a.length ≤ 4294967296):xE.f a=some (decide (limbs (val a)=a)):=by
 unfold xE.f
 by_cases h:a.length=0
 ·have:a=[]:=List.eq_nil_of_length_eq_zero h
  subst this
  rw [dt' (c:=limbs (val [])=[]) (by rw [val,limbs_zero])]
  rfl
 ·obtain ⟨k,hk⟩:∃ k,a.length=k + 1:=⟨a.length - 1,by omega⟩
  have hr:=rd_lb ha (i:=k) (by omega)
  have ht:=take_snoc (a:=a) (i:=k) (by omega)
  rw [← hk,List.take_length] at ht
  rw [hk,show (((k + 1:Nat):Int) == 0)=false by rw [beq_eq_false_iff_ne];omega,wrap64 (by omega) (by omega),show (((k + 1:Nat):Int) - 1)=(k:Int) by omega,dt' (by omega)]
  simp only [cond_true,cond_false]
  congr 1
  by_cases hz:rdL (0:Int) a (k:Int)=0
  ·rw [hz] at ht ⊢
   rw [df' (fun h2=>by
    have h3:usedN a=a.length:=by unfold usedN;rw [h2]
    rw [ht,used_zero] at h3
    have:=used_le (ha.take k)
    rw [List.length_append,List.length_take] at h3
    rw [List.length_take] at this
    simp only [List.length_singleton] at h3
    omega)]
   rfl
  ·rw [dt' (limbs_val ha (by
    conv=>lhs;rw [ht]
    rw [used_last (ha.take k) (by omega),List.length_take];omega))]
   rw [bne_iff_ne]
   exact hz
theorem rtrimmed_is {a:List Int} (ha:Lb a) (hs:a.length ≤ 4294967296):xm.f a=some (decide (limbs (val a)=a)):=trimmed_is ha hs
def goodB (n:Bool) (a b:List Int):Bool:=decide (limbs (val a)=a) && (decide (limbs (val b)=b) && (decide (0 < b.length) && (decide (b.length ≤ 64) && (decide (a.length ≤ 64) && ((!n || decide (0 < a.length)) && decide (Nat.gcd (val a) (val b)=1))))))
theorem good_v (n:Bool) {a b:List Int} (ha:Lb a) (hb:Lb b) (sa:a.length ≤ 1000000) (sb:b.length ≤ 1000000):yu.V ((n,(a,())),(b,()))=some (goodB n a b):=by
 refine yu.v _ ?_
 unfold yu.b goodB
 simp only [trimmed_is ha (by omega),trimmed_is hb (by omega),Option.bind_some]
 by_cases h1:limbs (val a)=a
 ·by_cases h2:limbs (val b)=b
  ·rw [dt' h1,dt' h2]
   simp only [Bool.not_true,cond_false,Option.bind_some,Bool.true_and]
   by_cases h3:b.length=0
   ·rw [df' (c:=0 < b.length) (by omega),h3]
    rfl
   ·rw [show (((b.length:Nat):Int) == 0)=false by rw [beq_eq_false_iff_ne];omega,dt' (c:=0 < b.length) (by omega)]
    simp only [cond_false,Bool.true_and]
    by_cases h4:b.length ≤ 64
    ·rw [df' (c:=((b.length:Nat):Int) > 64) (by omega),dt' h4]
     simp only [cond_false,Bool.true_and]
     by_cases h5:a.length ≤ 64
     ·rw [df' (c:=((a.length:Nat):Int) > 64) (by omega),dt' h5]
      simp only [cond_false,Bool.true_and]
      have hg:(Option.bind (yl.V a b) fun y3=>Option.bind (xn.V 1) fun y4=>Option.bind (ye.V y3 y4) fun y5=>some (y5 == 0))=some (decide (Nat.gcd (val a) (val b)=1)):=by
       have hb0:0 < val b:=Nat.pos_of_ne_zero fun h=>by rw [h,limbs_zero] at h2;rw [← h2] at h3;exact h3 rfl
       have hgl:(limbs (Nat.gcd (val a) (val b))).length ≤ b.length:=Nat.le_trans (len_mono (Nat.gcd_le_right _ hb0)) (used_le hb)
       have h1l:=len1 (show 1 < 4294967296 by omega)
       rw [gcd_v ha hb (by omega) (by omega),show xn.V 1=_ from of_v (n:=1) (by omega)]
       simp only [Option.bind_some]
       rw [cmp_v (lb_limbs _) (lb_limbs _) (by unfold Sz;omega) (by unfold Sz;omega),val_limbs,val_limbs,Option.bind_some]
       congr 1
       unfold cmpI
       by_cases hg:Nat.gcd (val a) (val b)=1
       ·rw [dt' hg,hg];rfl
       ·rw [df' hg,beq_eq_false_iff_ne]
        split
        ·omega
        ·split <;> omega
      cases n
      ·simp only [cond_false,Option.bind_some]
       rw [hg]
       rfl
      ·simp only [cond_true,Option.bind_some]
       by_cases h6:a.length=0
       ·rw [df' (c:=0 < a.length) (by omega),h6]
        rfl
       ·rw [show (((a.length:Nat):Int) == 0)=false by rw [beq_eq_false_iff_ne];omega,dt' (c:=0 < a.length) (by omega)]
        simp only [cond_false]
        rw [hg]
        rfl
     ·rw [dt' (c:=((a.length:Nat):Int) > 64) (by omega),df' h5]
      rfl
    ·rw [dt' (c:=((b.length:Nat):Int) > 64) (by omega),df' h4]
     rfl
  ·rw [dt' h1,df' h2]
   rfl
 ·rw [df' h1]
  rfl
theorem limbs_one:limbs 1=[1]:=by
 rw [limbs_pos (by omega),show 1 / 4294967296=0 by omega,limbs_zero]
 rfl
theorem one_is (g:Nat):(bif ((((List.length (limbs g)):Nat):Int) == (1:Int)) then (bif (decide (((0:Int) ≤ (0:Int))∧((0:Int) < (((List.length (limbs g)):Nat):Int)))) then (some ((rdL (0:Int) (limbs g) (0:Int)) == (1:Int))) else none) else (some false))=some (decide (g=1)):=by
 by_cases hg:g=1
 ·subst hg
  rw [limbs_one]
  rfl
 ·rw [df' hg]
  by_cases hl:(limbs g).length=1
  ·rw [hl,dt' (by omega)]
   have h0:0 < g:=Nat.pos_of_ne_zero fun h=>by rw [h,limbs_zero] at hl;exact absurd hl (by simp)
   have hgl:g < 4294967296:=by have:=(limbs_len g 1).1 (by omega);rwa [Nat.pow_one] at this
   rw [limbs_pos h0,Nat.mod_eq_of_lt hgl]
   show some ((g:Int) == 1)=some false
   congr 1
   rw [beq_eq_false_iff_ne]
   omega
  ·rw [show ((((limbs g).length:Nat):Int) == 1)=false by rw [beq_eq_false_iff_ne];omega]
   rfl
theorem rgood_v (n:Bool) {a b:List Int} (ha:Lb a) (hb:Lb b) (sa:a.length ≤ 1000000) (sb:b.length ≤ 1000000):yj.V ((n,(a,())),(b,()))=some (goodB n a b):=by
 refine yj.v _ ?_
 unfold yj.b goodB
 simp only [rtrimmed_is ha (by omega),rtrimmed_is hb (by omega),Option.bind_some]
 by_cases h1:limbs (val a)=a
 ·by_cases h2:limbs (val b)=b
  ·rw [dt' h1,dt' h2]
   simp only [Bool.not_true,cond_false,Option.bind_some,Bool.true_and]
   by_cases h3:b.length=0
   ·rw [df' (c:=0 < b.length) (by omega),h3]
    rfl
   ·rw [show (((b.length:Nat):Int) == 0)=false by rw [beq_eq_false_iff_ne];omega,dt' (c:=0 < b.length) (by omega)]
    simp only [cond_false,Bool.true_and]
    have hg:(Option.bind (zP.V a b) fun y3=>(bif ((((List.length y3):Nat):Int) == (1:Int)) then (bif (decide (((0:Int) ≤ (0:Int))∧((0:Int) < (((List.length y3):Nat):Int)))) then (some ((rdL (0:Int) y3 (0:Int)) == (1:Int))) else none) else (some false)))=some (decide (Nat.gcd (val a) (val b)=1)):=by
     rw [rgcd_v ha hb sa sb,Option.bind_some]
     exact one_is _
    by_cases h4:b.length ≤ 64
    ·by_cases h5:a.length ≤ 64
     ·rw [df' (c:=((b.length:Nat):Int) > 64) (by omega),dt' h4,df' (c:=((a.length:Nat):Int) > 64) (by omega),dt' h5]
      simp only [cond_false,Bool.true_and]
      cases n
      ·simp only [cond_false,Option.bind_some]
       rw [hg]
       rfl
      ·simp only [cond_true,Option.bind_some]
       by_cases h6:a.length=0
       ·rw [df' (c:=0 < a.length) (by omega),h6]
        rfl
       ·rw [show (((a.length:Nat):Int) == 0)=false by rw [beq_eq_false_iff_ne];omega,dt' (c:=0 < a.length) (by omega)]
        simp only [cond_false,Option.bind_some]
        rw [hg]
        rfl
     ·rw [dt' (c:=((a.length:Nat):Int) > 64) (by omega),df' h5]
      simp only [cond_true,Option.bind_some,Bool.false_and,Bool.and_false]
      cases n
      ·rfl
      ·by_cases h6:a.length=0
       ·rw [h6];rfl
       ·rw [show (((a.length:Nat):Int) == 0)=false by rw [beq_eq_false_iff_ne];omega]
        rfl
    ·rw [dt' (c:=((b.length:Nat):Int) > 64) (by omega),df' h4]
     simp only [Bool.false_and]
     by_cases h5:a.length ≤ 64
     ·rw [df' (c:=((a.length:Nat):Int) > 64) (by omega)]
      cases n
      ·rfl
      ·by_cases h6:a.length=0
       ·rw [h6];rfl
       ·rw [show (((a.length:Nat):Int) == 0)=false by rw [beq_eq_false_iff_ne];omega]
        rfl
     ·rw [dt' (c:=((a.length:Nat):Int) > 64) (by omega)]
      cases n
      ·rfl
      ·by_cases h6:a.length=0
       ·rw [h6];rfl
       ·rw [show (((a.length:Nat):Int) == 0)=false by rw [beq_eq_false_iff_ne];omega]
        rfl
  ·rw [dt' h1,df' h2]
   rfl
 ·rw [df' h1]
  rfl
theorem goodB_R {n:Bool} {a b:List Int} (h:goodB n a b=true):Can (sgn n (val a)) (val b)∧(((n,(a,())),(b,())):RA)=R (sgn n (val a)) (val b):=by
 unfold goodB at h
 simp only [Bool.and_eq_true,decide_eq_true_eq,Bool.or_eq_true,Bool.not_eq_true'] at h
 obtain ⟨h1,h2,h3,h4,h5,h6,h7⟩:=h
 have hb:0 < val b:=Nat.pos_of_ne_zero fun h=>by rw [h,limbs_zero] at h2;rw [← h2] at h3;exact absurd h3 (by simp)
 refine ⟨⟨hb,by rw [abs_sgn];exact h7,by rw [abs_sgn,h1];exact h5,by rw [h2];exact h4⟩,?_⟩
 unfold R W
 rw [abs_sgn,h1,h2]
 have hn:decide (sgn n (val a) < 0)=n:=by
  unfold sgn
  cases n
  ·rw [if_neg (by decide),df' (by omega)]
  ·have ha:0 < val a:=Nat.pos_of_ne_zero fun h=>by
    rw [h,limbs_zero] at h1
    rcases h6 with h6 | h6
    ·cases h6
    ·rw [← h1] at h6;exact absurd h6 (by simp)
   rw [if_pos rfl,dt' (by omega)]
 rw [hn]
theorem good_R {z:Int} {d:Nat} (h:Can z d):goodB (decide (z < 0)) (limbs z.natAbs) (limbs d)=true:=by
 obtain ⟨h1,h2,h3,h4⟩:=h
 unfold goodB
 simp only [val_limbs,Bool.and_eq_true,decide_eq_true_eq,Bool.or_eq_true,Bool.not_eq_true']
 refine ⟨trivial,trivial,by rw [limbs_pos h1,List.length_cons];omega,h4,h3,?_,h2⟩
 by_cases hz:z < 0
 ·right
  rw [limbs_pos (by omega),List.length_cons]
  omega
 ·left
  exact df' hz
theorem goodR_v {z:Int} {d:Nat} (h:Can z d):yu.V (R z d)=some true:=by
 have:=good_v (decide (z < 0)) (lb_limbs z.natAbs) (lb_limbs d) (by have:=h.2.2.1;omega) (by have:=h.2.2.2;omega)
 rw [good_R h] at this
 exact this
theorem rgoodR_v {z:Int} {d:Nat} (h:Can z d):yj.V (R z d)=some true:=by
 have:=rgood_v (decide (z < 0)) (lb_limbs z.natAbs) (lb_limbs d) (by have:=h.2.2.1;omega) (by have:=h.2.2.2;omega)
 rw [good_R h] at this
 exact this
end Go.Proofs.YtlfcdmibknmjeaaGreatDoor.E
end
