import Derived.Test.YtlfcdmibknmjeaaGreatDoorYArMc
section
namespace Go.Proofs.YtlfcdmibknmjeaaGreatDoor.E
open Go Go.Proofs.YtlfcdmibknmjeaaGreatDoor.Ev
set_option linter.unusedSimpArgs false
def qN (z:Int) (d:Nat):Int:=sgn (decide (z < 0)) (z.natAbs / Nat.gcd z.natAbs d)
def qD (z:Int) (d:Nat):Nat:=d / Nat.gcd z.natAbs d
def limR (x:RA):RA × Int:=if 64 < x.1.2.1.length ∨ 64 < x.2.1.length then (R0,2) else (x,0)
def ofR (z:Int) (d:Nat):RA × Int:=if d=0 then (R0,3) else limR (R (qN z d) (qD z d))
def fl (p:RA × Int):Bool × List Int × List Int × Int:=(p.1.1.1,(p.1.1.2.1,(p.1.2.1,p.2)))
theorem qN_neg (z:Int) (d:Nat):decide (qN z d < 0)=decide (z < 0):=by
 unfold qN
 by_cases h:z < 0
 ·rw [dt' h]
  have h0:0 < z.natAbs:=by omega
  have:=Nat.div_pos (Nat.le_of_dvd h0 (Nat.gcd_dvd_left z.natAbs d)) (Nat.gcd_pos_of_pos_left d h0)
  generalize z.natAbs / Nat.gcd z.natAbs d=q at *
  unfold sgn
  rw [if_pos rfl,dt' (by omega)]
 ·rw [df' h]
  generalize z.natAbs / Nat.gcd z.natAbs d=q
  unfold sgn
  rw [if_neg (by decide),df' (by omega)]
theorem qN_abs (z:Int) (d:Nat):(qN z d).natAbs=z.natAbs / Nat.gcd z.natAbs d:=by
 unfold qN
 rw [abs_sgn]
theorem ratof_v (n:Bool) {a b:List Int} (ha:Lb a) (hb:Lb b) (sa:a.length ≤ 1000000) (sb:b.length ≤ 1000000):xo.V (n,(a,())) b=some (ofR (sgn n (val a)) (val b)):=by
 refine xo.v _ _ ?_
 unfold xo.b ofR
 have la:(limbs (val a)).length ≤ a.length:=used_le ha
 have lb:(limbs (val b)).length ≤ b.length:=used_le hb
 rw [wtrim_v n ha (by unfold Sz;omega),trim_v hb (by omega),Option.bind_some,Option.bind_some]
 have hz:(sgn n (val a)).natAbs=val a:=abs_sgn _ _
 generalize sgn n (val a)=z at hz ⊢
 rw [wI_fst,wI_snd]
 rcases Nat.eq_zero_or_pos (val b) with h0 | h0
 ·rw [if_pos h0,h0,limbs_zero]
  rfl
 ·have hl:0 < (limbs (val b)).length:=by rw [limbs_pos h0,List.length_cons];omega
  rw [if_neg (by omega),show ((((limbs (val b)).length:Nat):Int) == 0)=false by rw [beq_eq_false_iff_ne];omega]
  simp only [cond_false]
  have hg0:0 < Nat.gcd z.natAbs (val b):=Nat.gcd_pos_of_pos_right _ h0
  have hgl:(limbs (Nat.gcd z.natAbs (val b))).length ≤ b.length:=Nat.le_trans (len_mono (Nat.gcd_le_right _ h0)) lb
  rw [gcd_v (lb_limbs _) (lb_limbs _) (by rw [hz];omega) (by omega),val_limbs,val_limbs,Option.bind_some]
  rw [rem_v (lb_limbs _) (lb_limbs _) (by rw [hz];omega) (by omega),rem_v (lb_limbs _) (lb_limbs _) (by omega) (by omega),val_limbs,val_limbs,val_limbs,if_neg (by omega),if_neg (by omega)]
  simp only [Option.bind_some,Sum.elim_inr]
  unfold limR R W
  rw [qN_neg,qN_abs]
  show _=some (if 64 < (limbs (z.natAbs / Nat.gcd z.natAbs (val b))).length ∨ 64 < (limbs (qD z (val b))).length then (R0,2) else _)
  unfold qD
  by_cases c1:64 < (limbs (z.natAbs / Nat.gcd z.natAbs (val b))).length
  ·rw [dt' (by omega),if_pos (.inl c1)]
   rfl
  ·rw [df' (by omega)]
   by_cases c2:64 < (limbs (val b / Nat.gcd z.natAbs (val b))).length
   ·rw [dt' (by omega),if_pos (.inr c2)]
    rfl
   ·rw [df' (by omega),if_neg (by omega)]
    rfl
theorem rwide_v (n:Bool) {a b:List Int} (ha:Lb a) (hb:Lb b) (sa:a.length ≤ 1000000) (sb:b.length ≤ 1000000) (h0:0 < val b):yF.V (n,(a,())) b=some (decide (qN (sgn n (val a)) (val b) < 0),(limbs (qN (sgn n (val a)) (val b)).natAbs,limbs (qD (sgn n (val a)) (val b)))):=by
 refine yF.v _ _ ?_
 unfold yF.b
 have la:(limbs (val a)).length ≤ a.length:=used_le ha
 have lb:(limbs (val b)).length ≤ b.length:=used_le hb
 rw [rwtrim_v n ha (by omega),Option.bind_some]
 have hz:(sgn n (val a)).natAbs=val a:=abs_sgn _ _
 generalize sgn n (val a)=z at hz ⊢
 simp only [wI_fst,wI_snd]
 have hg0:0 < Nat.gcd z.natAbs (val b):=Nat.gcd_pos_of_pos_right _ h0
 have hgl:(limbs (Nat.gcd z.natAbs (val b))).length ≤ b.length:=Nat.le_trans (len_mono (Nat.gcd_le_right _ h0)) lb
 have hql:=len_mono (Nat.div_le_self z.natAbs (Nat.gcd z.natAbs (val b)))
 rw [hz] at hql
 rw [rgcd_v (lb_limbs _) hb (by rw [hz];omega) (by omega),val_limbs,Option.bind_some]
 rw [rrem_v (lb_limbs _) (lb_limbs _) (by rw [hz];omega) (by omega),rrem_v hb (lb_limbs _) (by omega) (by omega),val_limbs,val_limbs,if_neg (by omega),if_neg (by omega)]
 simp only [Option.bind_some]
 rw [rmake_v _ (lb_limbs _) (by rw [hz];omega),val_limbs,Option.bind_some]
 rfl
theorem rlim_is (x:RA):xl.f x=some (fl (limR x)):=by
 unfold xl.f limR fl
 by_cases c1:64 < x.1.2.1.length
 ·rw [dt' (by omega),if_pos (.inl c1)]
  rfl
 ·rw [df' (by omega)]
  by_cases c2:64 < x.2.1.length
  ·rw [dt' (by omega),if_pos (.inr c2)]
   rfl
  ·rw [df' (by omega),if_neg (by omega)]
   rfl
theorem zlen_mul (z w:Int):(limbs (z * w).natAbs).length ≤ (limbs z.natAbs).length + (limbs w.natAbs).length:=by
 rw [Int.natAbs_mul]
 exact len_mul _ _
theorem zlen_add (z w:Int):(limbs (z + w).natAbs).length ≤ max (limbs z.natAbs).length (limbs w.natAbs).length + 1 :=
 Nat.le_trans (len_mono (Int.natAbs_add_le z w)) (len_add _ _)
theorem Wmul_v {z w:Int} (hz:(limbs z.natAbs).length ≤ 100000) (hw:(limbs w.natAbs).length ≤ 100000):yL.V (W z) (W w)=some (wI (z * w)):=by
 have:=wmul_v (decide (z < 0)) (decide (w < 0)) (lb_limbs z.natAbs) (lb_limbs w.natAbs) (by omega) (by omega)
 rw [sgn_W,sgn_W] at this
 exact this
theorem Wadd_v {z w:Int} (hz:(limbs z.natAbs).length ≤ 100000) (hw:(limbs w.natAbs).length ≤ 100000):yW.V (W z) (W w)=some (wI (z + w)):=by
 have:=wadd_v (decide (z < 0)) (decide (w < 0)) (lb_limbs z.natAbs) (lb_limbs w.natAbs) (by omega) (by omega)
 rw [sgn_W,sgn_W] at this
 exact this
theorem Wneg_v {z:Int} (hz:(limbs z.natAbs).length ≤ 100000):yV.V (W z)=some (wI (-z)):=by
 have:=wneg_v (decide (z < 0)) (lb_limbs z.natAbs) (by unfold Sz;omega)
 rw [sgn_W] at this
 exact this
theorem Wcmp_v {z w:Int} (hz:(limbs z.natAbs).length ≤ 100000) (hw:(limbs w.natAbs).length ≤ 100000):yT.V (W z) (W w)=some (cmpZ z w):=by
 have:=wcmp_v (decide (z < 0)) (decide (w < 0)) (lb_limbs z.natAbs) (lb_limbs w.natAbs) (by omega) (by omega)
 rw [sgn_W,sgn_W] at this
 exact this
theorem Lmul_v {m n:Nat} (hm:(limbs m).length ≤ 100000) (hn:(limbs n).length ≤ 100000):zA.V (limbs m) (limbs n)=some (limbs (m * n)):=by
 have:=mul_v (lb_limbs m) (lb_limbs n) (by unfold Sz;omega) (by unfold Sz;omega)
 rw [val_limbs,val_limbs] at this
 exact this
theorem Rof_v {z:Int} {d:Nat} (hz:(limbs z.natAbs).length ≤ 100000) (hd:(limbs d).length ≤ 100000):xo.V (W z) (limbs d)=some (ofR z d):=by
 have:=ratof_v (decide (z < 0)) (lb_limbs z.natAbs) (lb_limbs d) (by omega) (by omega)
 rw [sgn_W,val_limbs] at this
 exact this
theorem rWmul_v {z w:Int} (hz:(limbs z.natAbs).length ≤ 100000) (hw:(limbs w.natAbs).length ≤ 100000):yE.V (W z) (W w)=some (wI (z * w)):=by
 have:=rwmul_v (decide (z < 0)) (decide (w < 0)) (lb_limbs z.natAbs) (lb_limbs w.natAbs) (by omega) (by omega)
 rw [sgn_W,sgn_W] at this
 exact this
theorem rWadd_v {z w:Int} (hz:(limbs z.natAbs).length ≤ 100000) (hw:(limbs w.natAbs).length ≤ 100000):xZ.V (W z) (W w)=some (wI (z + w)):=by
 have:=rwadd_v (decide (z < 0)) (decide (w < 0)) (lb_limbs z.natAbs) (lb_limbs w.natAbs) (by omega) (by omega)
 rw [sgn_W,sgn_W] at this
 exact this
theorem rWneg_v {z:Int} (hz:(limbs z.natAbs).length ≤ 100000):xY.V (W z)=some (wI (-z)):=by
 have:=rwneg_v (decide (z < 0)) (lb_limbs z.natAbs) (by omega)
 rw [sgn_W] at this
 exact this
theorem rWcmp_v {z w:Int} (hz:(limbs z.natAbs).length ≤ 100000) (hw:(limbs w.natAbs).length ≤ 100000):xX.V (W z) (W w)=some (cmpZ z w):=by
 have:=rwcmp_v (decide (z < 0)) (decide (w < 0)) (lb_limbs z.natAbs) (lb_limbs w.natAbs) (by omega) (by omega)
 rw [sgn_W,sgn_W] at this
 exact this
theorem rLmul_v {m n:Nat} (hm:(limbs m).length ≤ 100000) (hn:(limbs n).length ≤ 100000):zL.V (limbs m) (limbs n)=some (limbs (m * n)):=by
 have:=rmul_v (lb_limbs m) (lb_limbs n) (by omega) (by omega)
 rw [val_limbs,val_limbs] at this
 exact this
theorem Rwide_v {z:Int} {d:Nat} (hz:(limbs z.natAbs).length ≤ 100000) (hd:(limbs d).length ≤ 100000) (h0:0 < d):yF.V (W z) (limbs d)=some (decide (qN z d < 0),(limbs (qN z d).natAbs,limbs (qD z d))):=by
 have:=rwide_v (decide (z < 0)) (lb_limbs z.natAbs) (lb_limbs d) (by omega) (by omega) (by rw [val_limbs];exact h0)
 rw [sgn_W,val_limbs] at this
 exact this
theorem rpos_v {d:Nat} (hd:(limbs d).length ≤ 100000):xR.V (limbs d)=some (wI (d:Int)):=by
 refine xR.v _ ?_
 unfold xR.b
 rw [rmake_v false (lb_limbs d) (by omega),val_limbs]
 rfl
theorem Rpow_v {m n:Nat} (hm:(limbs m).length ≤ 100000) (hn:n < 9223372036854775808):yi.V (limbs m) (n:Int)=some (if (limbs (m ^ n)).length ≤ 256 then Sum.inr (limbs (m ^ n),true) else Sum.inl false):=by
 have:=pow_v (lb_limbs m) (by unfold Sz;omega) hn
 rw [val_limbs] at this
 exact this
end Go.Proofs.YtlfcdmibknmjeaaGreatDoor.E
end
section
namespace Go.Proofs.YtlfcdmibknmjeaaGreatDoor.E
open Go Go.Proofs.YtlfcdmibknmjeaaGreatDoor.Ev
set_option linter.unusedSimpArgs false
def tr (x:RA):Bool × List Int × List Int:=(x.1.1,(x.1.2.1,x.2.1))
theorem Can.neg {z:Int} {d:Nat} (h:Can z d):Can (-z) d:=by
 obtain ⟨h1,h2,h3,h4⟩:=h
 exact ⟨h1,by rw [Int.natAbs_neg];exact h2,by rw [Int.natAbs_neg];exact h3,h4⟩
theorem Can.one {z:Int} (h:(limbs z.natAbs).length ≤ 64):Can z 1:=⟨by omega,Nat.gcd_one_right _,h,by rw [limbs_one];simp⟩
theorem nlen {d:Nat} (h:(limbs d).length ≤ 64):(limbs (d:Int).natAbs).length ≤ 64:=by rw [Int.natAbs_natCast];exact h
theorem cross_v {z w:Int} {d e:Nat} (h:Can z d) (h':Can w e):yP.V (R z d) (R w e)=some (wI (z * (e:Int))):=by
 refine yP.v _ _ ?_
 unfold yP.b
 rw [show yL.V (R z d).1 (false,((R w e).2.1,()))=some (wI (z * (e:Int))) by
  rw [← Wmul_v (by have:=h.2.2.1;omega) (by have:=nlen h'.2.2.2;omega),W_nat];rfl]
 rfl
theorem sizes {z w:Int} {d e:Nat} (h:Can z d) (h':Can w e):(limbs (z * (e:Int)).natAbs).length ≤ 128∧(limbs (w * (d:Int)).natAbs).length ≤ 128∧(limbs (z * w).natAbs).length ≤ 128∧(limbs (d * e)).length ≤ 128∧(limbs (z * (e:Int) + w * (d:Int)).natAbs).length ≤ 129:=by
 obtain ⟨h1,h2,h3,h4⟩:=h
 obtain ⟨k1,k2,k3,k4⟩:=h'
 have l1:=zlen_mul z (e:Int)
 have l2:=zlen_mul w (d:Int)
 have l3:=zlen_mul z w
 have l4:=len_mul d e
 have l5:=zlen_add (z * (e:Int)) (w * (d:Int))
 rw [Int.natAbs_natCast] at l1 l2
 omega
theorem radd_R {z w:Int} {d e:Nat} (h:Can z d) (h':Can w e):xh.V (R z d) (R w e)=some (fl (ofR (z * (e:Int) + w * (d:Int)) (d * e))):=by
 refine xh.v _ _ ?_
 unfold xh.b
 obtain ⟨s1,s2,s3,s4,s5⟩:=sizes h h'
 have m1:zA.V (R z d).2.1 (R w e).2.1=_:=Lmul_v (m:=d) (n:=e) (by have:=h.2.2.2;omega) (by have:=h'.2.2.2;omega)
 rw [goodR_v h,goodR_v h',cross_v h h',cross_v h' h,m1]
 simp only [Option.bind_some,Bool.not_true,cond_false]
 have a1:yW.V ((wI (z * (e:Int))).1,((wI (z * (e:Int))).2,())) ((wI (w * (d:Int))).1,((wI (w * (d:Int))).2,()))=_:=Wadd_v (by omega) (by omega)
 rw [a1,Option.bind_some]
 have a2:xo.V ((wI (z * (e:Int) + w * (d:Int))).1,((wI (z * (e:Int) + w * (d:Int))).2,())) (limbs (d * e))=_:=Rof_v (by omega) (by omega)
 rw [a2]
 rfl
theorem rneg_R {z:Int} {d:Nat} (h:Can z d):xj.V (R z d)=some (tr (R (-z) d)):=by
 refine xj.v _ ?_
 unfold xj.b
 have h4:(R z d).2.1.length ≤ 64:=h.2.2.2
 have a1:yV.V (R z d).1=_:=Wneg_v (z:=z) (by have:=h.2.2.1;omega)
 rw [goodR_v h,Option.bind_some,dt' (by omega),a1,Int.toNat_natCast,copy_all]
 rfl
theorem rsub_R {z w:Int} {d e:Nat} (h:Can z d) (h':Can w e):xu.V (R z d) (R w e)=some (fl (ofR (z * (e:Int) + -w * (d:Int)) (d * e))):=by
 refine xu.v _ _ ?_
 unfold xu.b
 rw [rneg_R h',Option.bind_some]
 rw [show xh.V (R z d) (((tr (R (-w) e)).1,((tr (R (-w) e)).2.1,())),((tr (R (-w) e)).2.2,()))=_ from radd_R h h'.neg]
 rfl
theorem rmul_R {z w:Int} {d e:Nat} (h:Can z d) (h':Can w e):xp.V (R z d) (R w e)=some (fl (ofR (z * w) (d * e))):=by
 refine xp.v _ _ ?_
 unfold xp.b
 obtain ⟨s1,s2,s3,s4,s5⟩:=sizes h h'
 have m1:zA.V (R z d).2.1 (R w e).2.1=_:=Lmul_v (m:=d) (n:=e) (by have:=h.2.2.2;omega) (by have:=h'.2.2.2;omega)
 have m2:yL.V (R z d).1 (R w e).1=_:=Wmul_v (z:=z) (w:=w) (by have:=h.2.2.1;omega) (by have:=h'.2.2.1;omega)
 rw [goodR_v h,goodR_v h',m1,m2]
 simp only [Option.bind_some,Bool.not_true,cond_false]
 have a2:xo.V ((wI (z * w)).1,((wI (z * w)).2,())) (limbs (d * e))=_:=Rof_v (by omega) (by omega)
 rw [a2]
 rfl
def sg (w:Int) (e:Nat):Int:=sgn (decide (w < 0)) e
theorem sg_abs (w:Int) (e:Nat):(sg w e).natAbs=e:=abs_sgn _ _
theorem div_sgn (z w:Int) (e:Nat):sgn (!(decide (z * (e:Int) < 0) == decide (w < 0))) (z * (e:Int)).natAbs=z * sg w e:=by
 have h:=sgn_mul (decide (z * (e:Int) < 0)) (decide (w < 0)) (z * (e:Int)).natAbs 1
 rw [Nat.mul_one,sgn_abs] at h
 rw [h,Int.mul_assoc]
 congr 1
 unfold sg sgn
 split <;> omega
theorem rdiv_R {z w:Int} {d e:Nat} (h:Can z d) (h':Can w e):xq.V (R z d) (R w e)=some (fl (ofR (z * sg w e) (d * w.natAbs))):=by
 refine xq.v _ _ ?_
 unfold xq.b
 obtain ⟨s1,s2,s3,s4,s5⟩:=sizes h h'
 have l1:=len_mul d w.natAbs
 have l2:=h.2.2.2
 have l3:=h'.2.2.1
 have m1:zA.V (R z d).2.1 (R w e).1.2.1=_:=Lmul_v (m:=d) (n:=w.natAbs) (by omega) (by omega)
 rw [goodR_v h,goodR_v h',m1,cross_v h h']
 simp only [Option.bind_some,Bool.not_true,cond_false]
 have a0:=ratof_v (!(decide (z * (e:Int) < 0) == decide (w < 0))) (lb_limbs (z * (e:Int)).natAbs) (lb_limbs (d * w.natAbs)) (by omega) (by omega)
 rw [val_limbs,val_limbs,div_sgn] at a0
 have a2:xo.V ((!((wI (z * (e:Int))).1 == (R w e).1.1)),((wI (z * (e:Int))).2,())) (limbs (d * w.natAbs))=_:=a0
 rw [a2]
 rfl
theorem rsign_R {z:Int} {d:Nat} (h:Can z d):xy.V (R z d)=some (cmpZ z 0):=by
 refine xy.v _ ?_
 unfold xy.b
 rw [goodR_v h]
 have a1:yT.V (R z d).1 (false,([],()))=some (cmpZ z 0):=by
  have:=Wcmp_v (z:=z) (w:=0) (by have:=h.2.2.1;omega) (by simp [limbs_zero])
  rw [← this]
  show _=yT.V (W z) (false,(limbs 0,()))
  rw [limbs_zero]
  rfl
 rw [Option.bind_some]
 simp only [Bool.not_true,cond_false]
 rw [a1]
 rfl
theorem rwhole_R {z:Int} (h1:-9223372036854775808 ≤ z) (h2:z < 9223372036854775808):yx.V z=some (tr (R z 1)):=by
 refine yx.v _ ?_
 unfold yx.b
 rw [wof_v h1 h2,show xn.V 1=_ from of_v (n:=1) (by omega)]
 rfl
theorem rrless_R {z w:Int} {d e:Nat} (h:Can z d) (h':Can w e):xD.V (R z d) (R w e)=some (cmpZ (z * (e:Int)) (w * (d:Int))):=by
 refine xD.v _ _ ?_
 unfold xD.b
 obtain ⟨s1,s2,s3,s4,s5⟩:=sizes h h'
 have l2:=h.2.2.2
 have l3:=h'.2.2.2
 have k2:=h.2.2.1
 have k3:=h'.2.2.1
 have p1:xR.V (R z d).2.1=_:=rpos_v (d:=d) (by omega)
 have p2:xR.V (R w e).2.1=_:=rpos_v (d:=e) (by omega)
 rw [p1,p2]
 simp only [Option.bind_some]
 have m1:yE.V (R z d).1 ((wI (e:Int)).1,((wI (e:Int)).2,()))=_:=rWmul_v (z:=z) (w:=(e:Int)) (by omega) (by rw [Int.natAbs_natCast];omega)
 have m2:yE.V (R w e).1 ((wI (d:Int)).1,((wI (d:Int)).2,()))=_:=rWmul_v (z:=w) (w:=(d:Int)) (by omega) (by rw [Int.natAbs_natCast];omega)
 rw [m1,m2]
 simp only [Option.bind_some]
 have c1:xX.V ((wI (z * (e:Int))).1,((wI (z * (e:Int))).2,())) ((wI (w * (d:Int))).1,((wI (w * (d:Int))).2,()))=_:=rWcmp_v (by omega) (by omega)
 rw [c1]
 rfl
theorem rrwhole_R {z:Int} (h1:-9223372036854775808 ≤ z) (h2:z < 9223372036854775808):yp.V z=some (tr (R z 1)):=by
 refine yp.v _ ?_
 unfold yp.b
 rw [rwof_v h1 h2]
 unfold tr R
 rw [limbs_one]
 rfl
theorem rrcmp_R {z w:Int} {d e:Nat} (h:Can z d) (h':Can w e):wb.V (R z d) (R w e)=some (cmpZ (z * (e:Int)) (w * (d:Int))):=by
 refine wb.v _ _ ?_
 unfold wb.b
 rw [rgoodR_v h,rgoodR_v h',rrless_R h h']
 rfl
theorem rrsign_R {z:Int} {d:Nat} (h:Can z d):xI.V (R z d)=some (cmpZ z 0):=by
 refine xI.v _ ?_
 unfold xI.b
 rw [rrwhole_R (z:=0) (by omega) (by omega),Option.bind_some]
 have c:wb.V (R z d) (((tr (R 0 1)).1,((tr (R 0 1)).2.1,())),((tr (R 0 1)).2.2,()))=_:=rrcmp_R h (Can.one (z:=0) (by simp [limbs_zero]))
 rw [c,Option.bind_some]
 congr 2
 ·show z * 1=z
  rw [Int.mul_one]
 ·exact Int.zero_mul _
theorem rrneg_R {z:Int} {d:Nat} (h:Can z d):xV.V (R z d)=some (tr (R (-z) d)):=by
 refine xV.v _ ?_
 unfold xV.b
 have l4:=h.2.2.2
 have a1:xY.V (R z d).1=_:=rWneg_v (z:=z) (by have:=h.2.2.1;omega)
 have a0:=rtrim_v (lb_limbs d) (by omega)
 rw [val_limbs] at a0
 have a2:zj.V (R z d).2.1=_:=a0
 rw [rgoodR_v h,a1,a2]
 rfl
theorem rrtimes_R {z w:Int} {d e:Nat} (hz:(limbs z.natAbs).length ≤ 1000) (hd:(limbs d).length ≤ 1000) (hw:(limbs w.natAbs).length ≤ 1000) (he:(limbs e).length ≤ 1000) (h0:0 < d * e):yC.V (R z d) (R w e)=some (tr (R (qN (z * w) (d * e)) (qD (z * w) (d * e)))):=by
 refine yC.v _ _ ?_
 unfold yC.b
 have l3:=zlen_mul z w
 have l4:=len_mul d e
 have m1:zL.V (R z d).2.1 (R w e).2.1=_:=rLmul_v (m:=d) (n:=e) (by omega) (by omega)
 have m2:yE.V (R z d).1 (R w e).1=_:=rWmul_v (z:=z) (w:=w) (by omega) (by omega)
 rw [m1,m2]
 simp only [Option.bind_some]
 have a2:yF.V ((wI (z * w)).1,((wI (z * w)).2,())) (limbs (d * e))=_:=Rwide_v (by omega) (by omega) h0
 rw [a2]
 rfl
theorem rrplus_R {z w:Int} {d e:Nat} (h:Can z d) (h':Can w e):xT.V (R z d) (R w e)=some (tr (R (qN (z * (e:Int) + w * (d:Int)) (d * e)) (qD (z * (e:Int) + w * (d:Int)) (d * e)))):=by
 refine xT.v _ _ ?_
 unfold xT.b
 obtain ⟨s1,s2,s3,s4,s5⟩:=sizes h h'
 have l2:=h.2.2.2
 have l3:=h'.2.2.2
 have k2:=h.2.2.1
 have k3:=h'.2.2.1
 have p1:xR.V (R z d).2.1=_:=rpos_v (d:=d) (by omega)
 have p2:xR.V (R w e).2.1=_:=rpos_v (d:=e) (by omega)
 have m3:zL.V (R z d).2.1 (R w e).2.1=_:=rLmul_v (m:=d) (n:=e) (by omega) (by omega)
 rw [p1,p2,m3]
 simp only [Option.bind_some]
 have m1:yE.V (R z d).1 ((wI (e:Int)).1,((wI (e:Int)).2,()))=_:=rWmul_v (z:=z) (w:=(e:Int)) (by omega) (by rw [Int.natAbs_natCast];omega)
 have m2:yE.V (R w e).1 ((wI (d:Int)).1,((wI (d:Int)).2,()))=_:=rWmul_v (z:=w) (w:=(d:Int)) (by omega) (by rw [Int.natAbs_natCast];omega)
 rw [m1,m2]
 simp only [Option.bind_some]
 have c1:xZ.V ((wI (z * (e:Int))).1,((wI (z * (e:Int))).2,())) ((wI (w * (d:Int))).1,((wI (w * (d:Int))).2,()))=_:=rWadd_v (by omega) (by omega)
 rw [c1,Option.bind_some]
 have a2:yF.V ((wI (z * (e:Int) + w * (d:Int))).1,((wI (z * (e:Int) + w * (d:Int))).2,())) (limbs (d * e))=_:=Rwide_v (by omega) (by omega) (Nat.mul_pos h.1 h'.1)
 rw [a2]
 rfl
theorem rradd_R {z w:Int} {d e:Nat} (h:Can z d) (h':Can w e):xJ.V (R z d) (R w e)=some (fl (ofR (z * (e:Int) + w * (d:Int)) (d * e))):=by
 refine xJ.v _ _ ?_
 unfold xJ.b
 have h0:¬ d * e=0:=Nat.ne_of_gt (Nat.mul_pos h.1 h'.1)
 rw [rgoodR_v h,rgoodR_v h',rrplus_R h h']
 simp only [Option.bind_some,Bool.not_true,cond_false]
 rw [rlim_is]
 unfold ofR
 rw [if_neg h0]
 rfl
theorem rrsub_R {z w:Int} {d e:Nat} (h:Can z d) (h':Can w e):xS.V (R z d) (R w e)=some (fl (ofR (z * (e:Int) + -w * (d:Int)) (d * e))):=by
 refine xS.v _ _ ?_
 unfold xS.b
 have h0:¬ d * e=0:=Nat.ne_of_gt (Nat.mul_pos h.1 h'.1)
 rw [rgoodR_v h,rgoodR_v h',rrneg_R h']
 simp only [Option.bind_some,Bool.not_true,cond_false]
 rw [show xT.V (R z d) (((tr (R (-w) e)).1,((tr (R (-w) e)).2.1,())),((tr (R (-w) e)).2.2,()))=_ from rrplus_R h h'.neg,Option.bind_some,rlim_is]
 unfold ofR
 rw [if_neg h0]
 rfl
theorem rrmul_R {z w:Int} {d e:Nat} (h:Can z d) (h':Can w e):xK.V (R z d) (R w e)=some (fl (ofR (z * w) (d * e))):=by
 refine xK.v _ _ ?_
 unfold xK.b
 have h0:=Nat.mul_pos h.1 h'.1
 rw [rgoodR_v h,rgoodR_v h',rrtimes_R (by have:=h.2.2.1;omega) (by have:=h.2.2.2;omega) (by have:=h'.2.2.1;omega) (by have:=h'.2.2.2;omega) h0]
 simp only [Option.bind_some,Bool.not_true,cond_false]
 rw [rlim_is]
 unfold ofR
 rw [if_neg (by omega)]
 rfl
theorem rrdiv_R {z w:Int} {d e:Nat} (h:Can z d) (h':Can w e):yI.V (R z d) (R w e)=some (fl (ofR (z * sg w e) (d * w.natAbs))):=by
 refine yI.v _ _ ?_
 unfold yI.b
 have l2:=h.2.2.2
 have l3:=h'.2.2.2
 have k2:=h.2.2.1
 have k3:=h'.2.2.1
 have hd:=h.1
 rw [rgoodR_v h,rgoodR_v h']
 simp only [Option.bind_some,Bool.not_true,cond_false]
 rcases Nat.eq_zero_or_pos w.natAbs with h0 | h0
 ·have hl:(R w e).1.2.1=[]:=by show limbs w.natAbs=[];rw [h0,limbs_zero]
  rw [hl,h0]
  rfl
 ·have hl:0 < (R w e).1.2.1.length:=by show 0 < (limbs w.natAbs).length;rw [limbs_pos h0,List.length_cons];omega
  rw [show ((((R w e).1.2.1.length:Nat):Int) == 0)=false by rw [beq_eq_false_iff_ne];omega]
  have m1:zZ.V (R w e).1.1 (R w e).2.1=some (wI (sg w e)):=by
   have:=rmake_v (decide (w < 0)) (lb_limbs e) (by omega)
   rw [val_limbs] at this
   exact this
  rw [m1]
  simp only [cond_false,Option.bind_some]
  rw [show yC.V (R z d) (((wI (sg w e)).1,((wI (sg w e)).2,())),((R w e).1.2.1,()))=_ from rrtimes_R (w:=sg w e) (e:=w.natAbs) (by omega) (by omega) (by rw [sg_abs];omega) (by omega) (Nat.mul_pos hd h0),Option.bind_some,rlim_is]
  unfold ofR
  rw [if_neg (Nat.ne_of_gt (Nat.mul_pos hd h0))]
  rfl
end Go.Proofs.YtlfcdmibknmjeaaGreatDoor.E
end
section
namespace Go.Proofs.YtlfcdmibknmjeaaGreatDoor.E
open Go Go.Proofs.YtlfcdmibknmjeaaGreatDoor.Ev
set_option linter.unusedSimpArgs false
theorem qN_one {z:Int} {d:Nat} (h:Nat.gcd z.natAbs d=1):qN z d=z:=by
 unfold qN
 rw [h,Nat.div_one,sgn_abs]
theorem qD_one {z:Int} {d:Nat} (h:Nat.gcd z.natAbs d=1):qD z d=d:=by
 unfold qD
 rw [h,Nat.div_one]
theorem ofR_one {z:Int} {d:Nat} (hd:0 < d) (h:Nat.gcd z.natAbs d=1):ofR z d=limR (R z d):=by
 unfold ofR
 rw [if_neg (by omega),qN_one h,qD_one h]
theorem limR_can {z:Int} {d:Nat} (h:Can z d):limR (R z d)=(R z d,0):=by
 unfold limR
 have h3:(R z d).1.2.1.length ≤ 64:=h.2.2.1
 have h4:(R z d).2.1.length ≤ 64:=h.2.2.2
 rw [if_neg (by omega)]
theorem limR_ok {z:Int} {d:Nat} (hd:0 < d) (h:Nat.gcd z.natAbs d=1) (e:(limR (R z d)).2=0):(limR (R z d)).1=R z d∧Can z d:=by
 unfold limR at e ⊢
 by_cases hc:64 < (R z d).1.2.1.length ∨ 64 < (R z d).2.1.length
 ·rw [if_pos hc] at e
  exact absurd e (by show ¬ (2:Int)=0;omega)
 ·rw [if_neg hc]
  have h3:¬ 64 < (limbs z.natAbs).length:=fun h=>hc (.inl h)
  have h4:¬ 64 < (limbs d).length:=fun h=>hc (.inr h)
  exact ⟨rfl,hd,h,by omega,by omega⟩
theorem qD_pos (z:Int) {d:Nat} (hd:0 < d):0 < qD z d:=Nat.div_pos (Nat.le_of_dvd hd (Nat.gcd_dvd_right _ _)) (Nat.gcd_pos_of_pos_right _ hd)
theorem q_gcd (z:Int) {d:Nat} (hd:0 < d):Nat.gcd (qN z d).natAbs (qD z d)=1:=by
 rw [qN_abs]
 exact Nat.coprime_div_gcd_div_gcd (Nat.gcd_pos_of_pos_right _ hd)
theorem ofR_ok {z:Int} {d:Nat} (e:(ofR z d).2=0):(ofR z d).1=R (qN z d) (qD z d)∧Can (qN z d) (qD z d):=by
 unfold ofR at e ⊢
 by_cases hd:d=0
 ·rw [if_pos hd] at e
  exact absurd e (by show ¬ (3:Int)=0;omega)
 ·rw [if_neg hd] at e ⊢
  exact limR_ok (qD_pos z (by omega)) (q_gcd z (by omega)) e
theorem uniq_R {z w:Int} {d e:Nat} (h:Can z d) (h':Can w e) (hx:z * (e:Int)=w * (d:Int)):z=w∧d=e:=by
 obtain ⟨h1,h2,_,_⟩:=h
 obtain ⟨k1,k2,_,_⟩:=h'
 have hn:z.natAbs * e=w.natAbs * d:=by
  have:=congrArg Int.natAbs hx
  rwa [Int.natAbs_mul,Int.natAbs_mul,Int.natAbs_natCast,Int.natAbs_natCast] at this
 have d1:d ∣ e:=by
  have:d ∣ z.natAbs * e:=⟨w.natAbs,by rw [hn,Nat.mul_comm]⟩
  exact Nat.Coprime.dvd_of_dvd_mul_left (by rw [Nat.Coprime,Nat.gcd_comm];exact h2) this
 have d2:e ∣ d:=by
  have:e ∣ w.natAbs * d:=⟨z.natAbs,by rw [← hn,Nat.mul_comm]⟩
  exact Nat.Coprime.dvd_of_dvd_mul_left (by rw [Nat.Coprime,Nat.gcd_comm];exact k2) this
 have hde:=Nat.dvd_antisymm d1 d2
 subst hde
 exact ⟨Int.eq_of_mul_eq_mul_right (by omega) hx,rfl⟩
theorem cmp_uniq {z w:Int} {d e:Nat} (h:Can z d) (h':Can w e):(cmpZ (z * (e:Int)) (w * (d:Int)) == 0)=(decide (z=w) && decide (d=e)):=by
 by_cases hx:z * (e:Int)=w * (d:Int)
 ·obtain ⟨rfl,rfl⟩:=uniq_R h h' hx
  rw [dt' rfl,dt' rfl]
  unfold cmpZ
  rw [if_neg (by omega),if_neg (by omega)]
  rfl
 ·have hn:(decide (z=w) && decide (d=e))=false:=by
   rw [Bool.and_eq_false_iff]
   by_cases hz:z=w
   ·right
    exact df' fun hd=>hx (by rw [hz,hd])
   ·left
    exact df' hz
  rw [hn,beq_eq_false_iff_ne]
  unfold cmpZ
  split
  ·omega
  ·split <;> omega
theorem equal_l {a b:List Int} (hl:a.length=b.length) (hs:a.length ≤ 4294967296):∀ m i:Nat,m + i=a.length→zc.V0 a b ((a.length:Nat):Int) (i:Int)=some (if a.drop i=b.drop i then Sum.inl () else Sum.inr false)
 | 0,i,hm=>by
  refine zc.v0 _ _ _ _ ?_
  unfold zc.b0
  rw [df' (by omega),List.drop_eq_nil_of_le (by omega),List.drop_eq_nil_of_le (by omega),if_pos rfl]
  rfl
 | m + 1,i,hm=>by
  refine zc.v0 _ _ _ _ ?_
  unfold zc.b0
  have ea:rdL (0:Int) a (i:Int)=a[i]'(by omega):=by simp [rdL,List.getD_eq_getElem?_getD,List.getElem?_eq_getElem (show i < a.length by omega)]
  have eb:rdL (0:Int) b (i:Int)=b[i]'(by omega):=by simp [rdL,List.getD_eq_getElem?_getD,List.getElem?_eq_getElem (show i < b.length by omega)]
  rw [dt' (by omega),dt' (by omega),dt' (by omega),ea,eb,List.drop_eq_getElem_cons (l:=a) (i:=i) (by omega),List.drop_eq_getElem_cons (l:=b) (i:=i) (by omega)]
  simp only [cond_true]
  by_cases h:a[i]'(by omega)=b[i]'(by omega)
  ·rw [h,wrap64 (by omega) (by omega),show ((i:Int) + 1)=((i + 1:Nat):Int) by omega,equal_l hl hs m (i + 1) (by omega)]
   simp only [bne_self_eq_false,cond_false]
   by_cases hd:a.drop (i + 1)=b.drop (i + 1)
   ·rw [if_pos hd,if_pos (by rw [hd])]
   ·rw [if_neg hd,if_neg fun he=>hd (List.cons.inj he).2]
  ·rw [show ((a[i]'(by omega)) != (b[i]'(by omega)))=true by simpa using h,if_neg (fun he=>h (List.cons.inj he).1)]
   rfl
theorem equal_v {a b:List Int} (hs:a.length ≤ 4294967296):zc.V a b=some (decide (a=b)):=by
 refine zc.v _ _ ?_
 unfold zc.b
 by_cases hl:a.length=b.length
 ·have k:=equal_l hl hs a.length 0 (by omega)
  rw [List.drop_zero,List.drop_zero] at k
  rw [show (((a.length:Nat):Int) != ((b.length:Nat):Int))=false by rw [bne_eq_false_iff_eq];omega]
  simp only [cond_false]
  rw [show zc.V0 a b ((a.length:Nat):Int) 0=_ from k]
  by_cases h:a=b
  ·rw [if_pos h,dt' h];rfl
  ·rw [if_neg h,df' h];rfl
 ·rw [df' (fun h=>hl (by rw [h])),show (((a.length:Nat):Int) != ((b.length:Nat):Int))=true by rw [bne_iff_ne];omega]
  rfl
theorem rsame_R {z w:Int} {d e:Nat} (h:Can z d) (h':Can w e):xb.V (R z d) (R w e)=some (decide (z=w) && decide (d=e)):=by
 refine xb.v _ _ ?_
 unfold xb.b
 have q1:zc.V (R z d).1.2.1 (R w e).1.2.1=_:=equal_v (a:=limbs z.natAbs) (b:=limbs w.natAbs) (by have:=h.2.2.1;omega)
 have q2:zc.V (R z d).2.1 (R w e).2.1=_:=equal_v (a:=limbs d) (b:=limbs e) (by have:=h.2.2.2;omega)
 rw [goodR_v h,goodR_v h',q1,q2]
 simp only [Option.bind_some,cond_true]
 show (Option.bind (bif (decide (z < 0) == decide (w < 0)) then _ else _) _)=_
 have hd:decide (limbs d=limbs e)=decide (d=e):=decide_eq_decide.2 ⟨limbs_inj,fun h=>by rw [h]⟩
 rw [hd]
 by_cases hz:z=w
 ·subst hz
  rw [dt' rfl,dt' rfl,beq_self_eq_true]
  rfl
 ·rw [df' hz,Bool.false_and]
  by_cases hs:decide (z < 0)=decide (w < 0)
  ·rw [df' (c:=limbs z.natAbs=limbs w.natAbs) (fun h2=>hz (by
    have h3:=limbs_inj h2
    have h4:=decide_eq_decide.1 hs
    omega)),hs,beq_self_eq_true]
   rfl
  ·rw [show (decide (z < 0) == decide (w < 0))=false by rw [beq_eq_false_iff_ne];exact hs]
   rfl
def psg (z:Int) (n:Nat):Int:=sgn (decide (z < 0) && decide (n % 2=1)) (z.natAbs ^ n)
def pwR (z:Int) (d:Nat) (n:Int):RA × Int :=
 if n < -128 ∨ 128 < n then (R0,2) else if n=0 then (R 1 1,0) else if 0 < n then limR (R (psg z n.toNat) (d ^ n.toNat)) else if z=0 then (R0,3) else limR (R (psg (sg z d) (-n).toNat) (z.natAbs ^ (-n).toNat))
theorem psg_abs (z:Int) (n:Nat):(psg z n).natAbs=z.natAbs ^ n:=abs_sgn _ _
theorem psg_gcd {z:Int} {d:Nat} (h:Nat.gcd z.natAbs d=1) (n:Nat):Nat.gcd (psg z n).natAbs (d ^ n)=1:=by
 rw [psg_abs]
 exact Nat.Coprime.pow n n h
theorem sg_neg {z:Int} {d:Nat} (hd:0 < d):decide (sg z d < 0)=decide (z < 0):=by
 unfold sg sgn
 by_cases h:z < 0
 ·rw [dt' h,if_pos rfl,dt' (by omega)]
 ·rw [df' h,if_neg (by decide),df' (by omega)]
theorem Can.turn {z:Int} {d:Nat} (h:Can z d) (hz:z ≠ 0):Can (sg z d) z.natAbs:=by
 obtain ⟨h1,h2,h3,h4⟩:=h
 exact ⟨by omega,by rw [sg_abs,Nat.gcd_comm];exact h2,by rw [sg_abs];exact h4,h3⟩
theorem within_is {n:Int} (h1:-9223372036854775808 ≤ n):xA.f n 128=some (decide (-128 ≤ n∧n ≤ 128)):=by
 unfold xA.f
 rw [wrap64 (by omega) (by omega)]
 by_cases h:-128 ≤ n
 ·rw [dt' (by omega)]
  show some (decide (n ≤ 128))=_
  congr 1
  exact decide_eq_decide.2 (by omega)
 ·rw [df' (c:=-128 ≤ n∧n ≤ 128) (by omega),df' (by omega)]
  rfl
theorem len_big {x:RA} (h:256 < x.1.2.1.length ∨ 256 < x.2.1.length):limR x=(R0,2):=by
 unfold limR
 rw [if_pos (by omega)]
theorem rpow_pos {z:Int} {d:Nat} (h:Can z d) {n:Nat} (h0:0 < n) (hn:n ≤ 128):yv.V (R z d) (n:Int)=some (limR (R (psg z n) (d ^ n))):=by
 refine yv.v _ _ ?_
 unfold yv.b
 have l2:=h.2.2.2
 have k2:=h.2.2.1
 have p1:yi.V (R z d).1.2.1 (n:Int)=_:=Rpow_v (m:=z.natAbs) (n:=n) (by omega) (by omega)
 have p2:yi.V (R z d).2.1 (n:Int)=_:=Rpow_v (m:=d) (n:=n) (by omega) (by omega)
 have hmod:(Int.tmod (n:Int) 2 == 1)=decide (n % 2=1):=by
  rw [Int.tmod_eq_emod_of_nonneg (by omega),Bool.eq_iff_iff,beq_iff_eq,decide_eq_true_iff]
  omega
 rw [goodR_v h,within_is (by omega),dt' (by omega),p1,p2]
 simp only [Option.bind_some,Bool.not_true,cond_false]
 rw [show ((n:Int) == 0)=false by rw [beq_eq_false_iff_ne];omega,df' (by omega),hmod]
 simp only [cond_false]
 by_cases c1:(limbs (z.natAbs ^ n)).length ≤ 256
 ·rw [if_pos c1]
  simp only [Sum.elim_inr,Bool.not_true,cond_false]
  by_cases c2:(limbs (d ^ n)).length ≤ 256
  ·rw [if_pos c2]
   simp only [Sum.elim_inr,Option.bind_some,Bool.not_true,cond_false]
   rw [dt' (by omega),Int.toNat_natCast,copy_all]
   have ho:=ratof_v (decide (z < 0) && decide (n % 2=1)) (lb_limbs (z.natAbs ^ n)) (lb_limbs (d ^ n)) (by omega) (by omega)
   rw [val_limbs,val_limbs,show sgn (decide (z < 0) && decide (n % 2=1)) (z.natAbs ^ n)=psg z n from rfl,ofR_one (Nat.pow_pos h.1) (psg_gcd h.2.1 n)] at ho
   show (bif true then (bif (decide (z < 0)) then _ else _) else _)=_
   cases hz:decide (z < 0)
   ·rw [hz,Bool.false_and] at ho
    simp only [cond_true,cond_false]
    rw [ho]
    rfl
   ·rw [hz,Bool.true_and] at ho
    simp only [cond_true]
    rw [ho]
    rfl
  ·rw [if_neg c2,len_big (.inr (show 256 < (limbs (d ^ n)).length by omega))]
   rfl
 ·rw [if_neg c1,len_big (.inl (show 256 < (limbs (psg z n).natAbs).length by rw [psg_abs];omega))]
  by_cases c2:(limbs (d ^ n)).length ≤ 256
  ·rw [if_pos c2]
   simp only [Sum.elim_inl,Sum.elim_inr,Option.bind_some]
   rfl
  ·rw [if_neg c2]
   rfl
theorem rturn_R {z:Int} {d:Nat} (h:Can z d):yD.V (R z d)=some (fl (if z=0 then (R0,3) else (R (sg z d) z.natAbs,0))):=by
 refine yD.v _ ?_
 unfold yD.b
 rw [rwhole_R (z:=1) (by omega) (by omega),Option.bind_some]
 have c1:Can 1 1:=Can.one (by show (limbs 1).length ≤ 64;rw [limbs_one];simp)
 rw [show xq.V (((tr (R 1 1)).1,((tr (R 1 1)).2.1,())),((tr (R 1 1)).2.2,())) (R z d)=_ from rdiv_R c1 h,Int.one_mul,Nat.one_mul]
 by_cases hz:z=0
 ·subst hz
  rfl
 ·have ht:=h.turn hz
  rw [if_neg hz,ofR_one ht.1 ht.2.1,limR_can ht]
  rfl
theorem rpow_R {z:Int} {d:Nat} (h:Can z d) {n:Int} (hn:-9223372036854775808 ≤ n):yv.V (R z d) n=some (pwR z d n):=by
 unfold pwR
 by_cases c1:n < -128 ∨ 128 < n
 ·rw [if_pos c1]
  refine yv.v _ _ ?_
  unfold yv.b
  rw [goodR_v h,within_is hn,df' (by omega)]
  rfl
 ·rw [if_neg c1]
  by_cases c2:n=0
  ·rw [if_pos c2]
   subst c2
   refine yv.v _ _ ?_
   unfold yv.b
   rw [goodR_v h,within_is hn,dt' (by omega),rwhole_R (z:=1) (by omega) (by omega)]
   rfl
  ·rw [if_neg c2]
   by_cases c3:0 < n
   ·rw [if_pos c3]
    have:=rpow_pos h (n:=n.toNat) (by omega) (by omega)
    rwa [show ((n.toNat:Nat):Int)=n by omega] at this
   ·rw [if_neg c3]
    refine yv.v _ _ ?_
    unfold yv.b
    rw [goodR_v h,within_is hn,dt' (by omega),rturn_R h]
    simp only [Option.bind_some,Bool.not_true,cond_false]
    rw [show (n == 0)=false by rw [beq_eq_false_iff_ne];exact c2,dt' (by omega)]
    simp only [cond_false,cond_true]
    by_cases hz:z=0
    ·rw [if_pos hz,if_pos hz]
     rfl
    ·have:=rpow_pos (h.turn hz) (n:=(-n).toNat) (by omega) (by omega)
     rw [show (((-n).toNat:Nat):Int)=IntKind.wrap .i64 (0 - n) by rw [wrap64 (by omega) (by omega)];omega] at this
     rw [if_neg hz,if_neg hz]
     show (Option.bind (yv.V (R (sg z d) z.natAbs) (IntKind.wrap .i64 (0 - n))) fun y8=>some (y8.1,y8.2))=_
     rw [this]
     rfl
theorem len_pow (m:Nat):∀ n,(limbs (m ^ n)).length ≤ (limbs m).length * n + 1
 | 0=>by rw [Nat.pow_zero,limbs_one];simp
 | n + 1=>by
  have h1:(limbs (m ^ (n + 1))).length ≤ (limbs (m ^ n)).length + (limbs m).length:=by rw [Nat.pow_succ];exact len_mul (m ^ n) m
  have h2:=len_pow m n
  rw [Nat.mul_succ]
  omega
theorem wide_l {z:Int} {d:Nat} (h:Can z d) (ng:Bool) {n:Nat} (hn:n ≤ 128):∀ m i:Nat,m + i=n→yM.V0 (R z d) ng (n:Int) (limbs (z.natAbs ^ i)) (limbs (d ^ i)) (i:Int)=some (R z d,(ng,((n:Int),(limbs (z.natAbs ^ n),limbs (d ^ n)))))
 | 0,i,hm=>by
  refine yM.v0 _ _ _ _ _ _ ?_
  unfold yM.b0
  rw [df' (by omega),show i=n by omega]
  rfl
 | m + 1,i,hm=>by
  refine yM.v0 _ _ _ _ _ _ ?_
  unfold yM.b0
  have l1:=len_pow z.natAbs i
  have l2:=len_pow d i
  have hb1:(limbs z.natAbs).length * i ≤ 64 * 128:=Nat.mul_le_mul h.2.2.1 (by omega)
  have hb2:(limbs d).length * i ≤ 64 * 128:=Nat.mul_le_mul h.2.2.2 (by omega)
  have k2:=h.2.2.1
  have k3:=h.2.2.2
  have m1:zL.V (limbs (z.natAbs ^ i)) (R z d).1.2.1=_:=rLmul_v (m:=z.natAbs ^ i) (n:=z.natAbs) (by omega) (by omega)
  have m2:zL.V (limbs (d ^ i)) (R z d).2.1=_:=rLmul_v (m:=d ^ i) (n:=d) (by omega) (by omega)
  rw [dt' (by omega),m1,m2]
  simp only [cond_true,Option.bind_some]
  rw [wrap64 (by omega) (by omega),show ((i:Int) + 1)=((i + 1:Nat):Int) by omega,← Nat.pow_succ,← Nat.pow_succ]
  exact wide_l h ng hn m (i + 1) (by omega)
theorem wide_R {z:Int} {d:Nat} (h:Can z d) {n:Nat} (hn:n ≤ 128):yM.V (R z d) (n:Int)=some (tr (R (psg z n) (d ^ n))):=by
 refine yM.v _ _ ?_
 unfold yM.b
 have k:=wide_l h false hn n 0 (by omega)
 rw [Nat.pow_zero,Nat.pow_zero,limbs_one] at k
 have l1:=len_pow z.natAbs n
 have hb1:(limbs z.natAbs).length * n ≤ 64 * 128:=Nat.mul_le_mul h.2.2.1 (by omega)
 have hm:=rmake_v (decide (z < 0) && decide (n % 2=1)) (lb_limbs (z.natAbs ^ n)) (by omega)
 rw [val_limbs,show sgn (decide (z < 0) && decide (n % 2=1)) (z.natAbs ^ n)=psg z n from rfl] at hm
 have hmod:(Int.tmod (n:Int) 2 == 1)=decide (n % 2=1):=by
  rw [Int.tmod_eq_emod_of_nonneg (by omega),Bool.eq_iff_iff,beq_iff_eq,decide_eq_true_iff]
  omega
 simp only
 rw [show yM.V0 (R z d) false (n:Int) [1] [1] 0=_ from k,Option.bind_some]
 simp only
 rw [hmod]
 show (bif (decide (z < 0)) then _ else _)=_
 cases hz:decide (z < 0)
 ·rw [hz,Bool.false_and] at hm
  rw [hm]
  rfl
 ·rw [hz,Bool.true_and] at hm
  rw [hm]
  rfl
theorem rrpow_R {z:Int} {d:Nat} (h:Can z d) {n:Int} (hn:-9223372036854775808 ≤ n):wc.V (R z d) n=some (fl (pwR z d n)):=by
 refine wc.v _ _ ?_
 unfold wc.b pwR
 rw [rgoodR_v h]
 simp only [Option.bind_some,Bool.not_true,cond_false]
 by_cases c0:128 < n
 ·rw [dt' (by omega),if_pos (by omega)]
  rfl
 ·rw [df' (by omega)]
  simp only [cond_false]
  by_cases c1:n < -128
  ·rw [dt' (by omega),if_pos (by omega)]
   rfl
  ·rw [df' (by omega),if_neg (by omega)]
   simp only [cond_false]
   by_cases c2:n=0
   ·rw [if_pos c2,c2,rrwhole_R (z:=1) (by omega) (by omega)]
    rfl
   ·rw [if_neg c2,show (n == 0)=false by rw [beq_eq_false_iff_ne];exact c2]
    simp only [cond_false]
    by_cases c3:0 < n
    ·have:=wide_R h (n:=n.toNat) (by omega)
     rw [show ((n.toNat:Nat):Int)=n by omega] at this
     rw [if_pos c3,dt' (by omega),this]
     simp only [cond_true,Option.bind_some]
     rw [rlim_is]
     rfl
    ·rw [if_neg c3,df' (by omega)]
     simp only [cond_false]
     by_cases hz:z=0
     ·rw [if_pos hz]
      subst hz
      rw [show (R 0 d).1.2.1=[] by show limbs 0=[];exact limbs_zero]
      rfl
     ·have hl:0 < (R z d).1.2.1.length:=by show 0 < (limbs z.natAbs).length;rw [limbs_pos (by omega),List.length_cons];omega
      have hw:=wide_R h (n:=(-n).toNat) (by omega)
      rw [show (((-n).toNat:Nat):Int)=IntKind.wrap .i64 (0 - n) by rw [wrap64 (by omega) (by omega)];omega] at hw
      rw [if_neg hz,show ((((R z d).1.2.1.length:Nat):Int) == 0)=false by rw [beq_eq_false_iff_ne];omega,hw]
      simp only [cond_false,Option.bind_some]
      have l1:=len_pow d (-n).toNat
      have hb1:(limbs d).length * (-n).toNat ≤ 64 * 128:=Nat.mul_le_mul h.2.2.2 (by omega)
      have hm:=rmake_v (decide (psg z (-n).toNat < 0)) (lb_limbs (d ^ (-n).toNat)) (by omega)
      have hs:sgn (decide (psg z (-n).toNat < 0)) (d ^ (-n).toNat)=psg (sg z d) (-n).toNat:=by
       unfold psg
       rw [sg_neg h.1,sg_abs]
       congr 1
       have hp:0 < z.natAbs ^ (-n).toNat:=Nat.pow_pos (by omega)
       generalize z.natAbs ^ (-n).toNat=q at *
       generalize (decide (z < 0) && decide ((-n).toNat % 2=1))=b
       unfold sgn
       cases b
       ·rw [if_neg (by decide),df' (by omega)]
       ·rw [if_pos rfl,dt' (by omega)]
      rw [val_limbs,hs] at hm
      have ht:xU.V (((tr (R (psg z (-n).toNat) (d ^ (-n).toNat))).1,((tr (R (psg z (-n).toNat) (d ^ (-n).toNat))).2.1,())),((tr (R (psg z (-n).toNat) (d ^ (-n).toNat))).2.2,()))=some (tr (R (psg (sg z d) (-n).toNat) (z.natAbs ^ (-n).toNat))):=by
       refine xU.v _ ?_
       unfold xU.b
       have hm':zZ.V (decide (psg z (-n).toNat < 0)) (limbs (d ^ (-n).toNat))=_:=hm
       show (Option.bind (zZ.V (decide (psg z (-n).toNat < 0)) (limbs (d ^ (-n).toNat))) _)=_
       rw [hm',Option.bind_some]
       show some (_,(_,limbs (psg z (-n).toNat).natAbs))=_
       rw [psg_abs]
       rfl
      rw [ht]
      simp only [Option.bind_some]
      rw [rlim_is]
      rfl
end Go.Proofs.YtlfcdmibknmjeaaGreatDoor.E
end
section
namespace Go.Proofs.YtlfcdmibknmjeaaGreatDoor.E
open Go Go.Proofs.YtlfcdmibknmjeaaGreatDoor.Ev
set_option linter.unusedSimpArgs false
def IsD (l:List Int):Prop:=∀ x ∈ l,48 ≤ x∧x ≤ 57
def dv:List Int→Nat
 | []=>0
 | x :: l=>(x.toNat - 48) + 10 * dv l
theorem dv_app:∀ a b:List Int,dv (a ++ b)=dv a + 10 ^ a.length * dv b
 | [],b=>by simp [dv]
 | x :: a,b=>by
  rw [List.cons_append,dv,dv_app a b,dv,List.length_cons,Nat.pow_succ,Nat.mul_add,Nat.mul_comm (10 ^ a.length) 10,Nat.mul_assoc]
  omega
theorem IsD.nil:IsD []:=fun x h=>by cases h
theorem IsD.cons {x:Int} {a:List Int} (hx:48 ≤ x∧x ≤ 57) (h:IsD a):IsD (x :: a):=fun y hy=>by
 rcases List.mem_cons.1 hy with rfl | hy
 ·exact hx
 ·exact h y hy
theorem IsD.app {a b:List Int} (h:IsD a) (h':IsD b):IsD (a ++ b):=fun x hx=>by
 rcases List.mem_append.1 hx with hx | hx
 ·exact h x hx
 ·exact h' x hx
theorem dig_l (q:List Int):∀ (m i r:Nat) (b:List Int),m + i=9→r < 10 ^ m→b.length + m ≤ 68719476736 →
 ∃ D,zf.V0 b q (r:Int) (i:Int)=some (b ++ D,q)∧IsD D∧D.length=m∧dv D=r
 | 0,i,r,b,hm,hr,_=>by
  refine ⟨[],zf.v0 _ _ _ _ ?_,.nil,rfl,?_⟩
  ·unfold zf.b0
   rw [df' (by omega),List.append_nil]
   rfl
  ·rw [Nat.pow_zero] at hr
   rw [dv];omega
 | m + 1,i,r,b,hm,hr,hb=>by
  have h10:10 ^ m ≤ 10 ^ 8:=Nat.pow_le_pow_right (by omega) (by omega)
  have hrl:r < 10 * 10 ^ m:=by rw [Nat.pow_succ] at hr;omega
  obtain ⟨D,k1,k2,k3,k4⟩:=dig_l q m (i + 1) (r / 10) (b ++ [((48 + r % 10:Nat):Int)]) (by omega) (by omega) (by rw [List.length_append,List.length_singleton];omega)
  refine ⟨((48 + r % 10:Nat):Int) :: D,zf.v0 _ _ _ _ ?_,k2.cons (by omega),by rw [List.length_cons,k3],?_⟩
  ·unfold zf.b0
   have e1:IntKind.wrap .u8 (48 + IntKind.wrap .u8 (Int.tmod (r:Int) 10))=((48 + r % 10:Nat):Int):=by
    rw [Int.tmod_eq_emod_of_nonneg (by omega),IntKind.wrap_u8,IntKind.wrap_u8];omega
   have e2:IntKind.wrap .u32 (Int.tdiv (r:Int) 10)=((r / 10:Nat):Int):=by
    rw [Int.tdiv_eq_ediv_of_nonneg (by omega),IntKind.wrap_u32];omega
   rw [dt' (by omega),e1,e2,wrap64 (by omega) (by omega),dt' (by rw [List.length_cons,List.length_nil];omega)]
   simp only [cond_true]
   rw [show ((i:Int) + 1)=((i + 1:Nat):Int) by omega,k1,List.append_assoc]
   rfl
  ·rw [dv,k4]
   omega
theorem tens9:rdL (0:Int) gv0 9=((1000000000:Nat):Int):=rfl
theorem txt_l:∀ (k n:Nat) (b:List Int),IsD b→n < 1000000000 ^ k→b.length + 9 * k ≤ 68719476736→(limbs n).length ≤ 1000000 →
 ∃ b',zf.V1 (limbs n) b=some b'∧IsD b'∧dv b'=dv b + 10 ^ b.length * n∧b'.length ≤ b.length + 9 * k
 | 0,n,b,hb,hn,_,_=>by
  rw [Nat.pow_zero] at hn
  have h0:n=0:=by omega
  subst h0
  refine ⟨b,zf.v1 _ _ ?_,hb,by omega,by omega⟩
  unfold zf.b1
  rw [limbs_zero]
  rfl
 | k + 1,n,b,hb,hn,hl,hs=>by
  rcases Nat.eq_zero_or_pos n with h0 | h0
  ·subst h0
   refine ⟨b,zf.v1 _ _ ?_,hb,by omega,by omega⟩
   unfold zf.b1
   rw [limbs_zero]
   rfl
  ·have hlen:0 < (limbs n).length:=by rw [limbs_pos h0,List.length_cons];omega
   have hr:=Nat.mod_lt n (show 1000000000 > 0 by omega)
   obtain ⟨D,d1,d2,d3,d4⟩:=dig_l (limbs (n / 1000000000)) 9 0 (n % 1000000000) b (by omega) (by simpa using hr) (by omega)
   have hq:n / 1000000000 < 1000000000 ^ k:=(Nat.div_lt_iff_lt_mul (by omega)).2 (by rw [Nat.pow_succ] at hn;exact hn)
   have hql:=len_mono (Nat.div_le_self n 1000000000)
   obtain ⟨b',k1,k2,k3,k4⟩:=txt_l k (n / 1000000000) (b ++ D) (hb.app d2) hq (by rw [List.length_append];omega) (by omega)
   refine ⟨b',zf.v1 _ _ ?_,k2,?_,by rw [List.length_append] at k4;omega⟩
   ·unfold zf.b1
    have hqs:=qsmall_v (lb_limbs n) (by unfold Sz;omega) (v:=1000000000) (by omega) (by omega)
    rw [val_limbs] at hqs
    rw [dt' (by omega),tens9,hqs]
    simp only [cond_true,Option.bind_some,Sum.elim_inr]
    rw [show zf.V0 b (limbs (n / 1000000000)) ((n % 1000000000:Nat):Int) 0=_ from d1,Option.bind_some]
    exact k1
   ·rw [k3,dv_app,d4,List.length_append,d3,Nat.pow_add]
    have e:=Nat.div_add_mod n 1000000000
    conv=>rhs;rw [← e,Nat.mul_add]
    rw [Nat.mul_assoc,show (10:Nat) ^ 9=1000000000 from rfl]
    omega
theorem strip_l:∀ (m:Nat) (b:List Int),b.length=m→IsD b→m ≤ 68719476736→∃ b',zf.V2 b=some b'∧IsD b'∧dv b'=dv b∧b'.length ≤ b.length
 | 0,b,hm,hb,_=>by
  have:b=[]:=List.eq_nil_of_length_eq_zero hm
  subst this
  exact ⟨[],zf.v2 _ rfl,hb,rfl,Nat.le_refl _⟩
 | m + 1,b,hm,hb,hl=>by
  have hs:=take_snoc (a:=b) (i:=m) (by omega)
  rw [← hm,List.take_length] at hs
  have e:IntKind.wrap .i64 (((b.length:Nat):Int) - 1)=(m:Int):=by rw [hm,wrap64 (by omega) (by omega)];omega
  by_cases hx:rdL (0:Int) b (m:Int)=48
  ·obtain ⟨b',k1,k2,k3,k4⟩:=strip_l m (b.take m) (by rw [List.length_take];omega) (fun x hx=>hb x (List.mem_of_mem_take hx)) (by omega)
   refine ⟨b',zf.v2 _ ?_,k2,?_,by rw [List.length_take] at k4;omega⟩
   ·unfold zf.b2
    rw [e,dt' (by omega),dt' (by omega),hx,dt' (by omega),show Int.toNat ((m:Int) - 0)=m by omega]
    exact k1
   ·rw [k3]
    conv=>rhs;rw [hs,dv_app,hx]
    simp [dv]
  ·refine ⟨b,zf.v2 _ ?_,hb,rfl,Nat.le_refl _⟩
   unfold zf.b2
   rw [e,dt' (by omega),dt' (by omega),show (rdL (0:Int) b (m:Int) == 48)=false by rw [beq_eq_false_iff_ne];exact hx]
   rfl
def toI (s:ByteArray):List Int:=s.data.toList.map fun u=>(u.toNat:Int)
theorem toI_bytes {l:List Int} (h:IsD l):toI (bytesA l)=l:=by
 unfold toI bytesA
 simp only [List.map_map]
 conv=>rhs;rw [← List.map_id l]
 refine List.map_congr_left fun x hx=>?_
 have:=h x hx
 show (((UInt8.ofNat x.toNat).toNat:Nat):Int)=x
 rw [UInt8.toNat_ofNat']
 omega
theorem toI_app (a b:ByteArray):toI (a ++ b)=toI a ++ toI b:=by
 unfold toI
 rw [ByteArray.data_append,Array.toList_append,List.map_append]
theorem toI_len (a:ByteArray):(toI a).length=a.size:=by
 unfold toI
 rw [List.length_map]
 rfl
def Tells (s:ByteArray) (n:Nat):Prop:=IsD (toI s)∧dv (toI s).reverse=n∧0 < s.size∧s.size ≤ 1000000
theorem text_v {n:Nat} (hn:(limbs n).length ≤ 1000):∃ s,zf.V (limbs n)=some s∧Tells s n:=by
 have hlt:n < 1000000000 ^ (2 * (limbs n).length):=by
  refine Nat.lt_of_lt_of_le (limbs_lt n) ?_
  rw [Nat.pow_mul]
  exact Nat.pow_le_pow_left (by omega) _
 obtain ⟨b,k1,k2,k3,k5⟩:=txt_l (2 * (limbs n).length) n [] .nil hlt (by rw [List.length_nil];omega) (by omega)
 rw [dv,List.length_nil,Nat.pow_zero,Nat.one_mul,Nat.zero_add] at k3
 have hbl:b.length ≤ 68719476736∧b.length ≤ 900000:=by
  rw [List.length_nil] at k5;omega
 obtain ⟨b',s1,s2,s3,s4⟩:=strip_l b.length b rfl k2 hbl.1
 have ht:=trim_v (lb_limbs n) (by omega)
 rw [val_limbs] at ht
 by_cases h:b'.length=0
 ·have hb:b'=[]:=List.eq_nil_of_length_eq_zero h
  subst hb
  refine ⟨_,zf.v _ (y:=ByteArray.mk #[48]) ?_,?_,?_,?_,?_⟩
  ·unfold zf.b
   rw [ht,Option.bind_some,k1,Option.bind_some,s1]
   rfl
  ·exact IsD.cons (x:=48) (by omega) .nil
  ·rw [dv] at s3
   rw [← k3,← s3]
   rfl
  ·show 0 < 1
   omega
  ·show 1 ≤ 1000000
   omega
 ·have hr:IsD b'.reverse:=fun x hx=>s2 x (List.mem_reverse.1 hx)
  refine ⟨_,zf.v _ (y:=bytesA b'.reverse) ?_,?_,?_,?_,?_⟩
  ·unfold zf.b
   rw [ht,Option.bind_some,k1,Option.bind_some,s1,Option.bind_some,show (((b'.length:Nat):Int) == 0)=false by rw [beq_eq_false_iff_ne];omega]
   rfl
  ·rw [toI_bytes hr];exact hr
  ·rw [toI_bytes hr,List.reverse_reverse,s3,k3]
  ·rw [← toI_len,toI_bytes hr,List.length_reverse];omega
  ·rw [← toI_len,toI_bytes hr,List.length_reverse];omega
end Go.Proofs.YtlfcdmibknmjeaaGreatDoor.E
end
section
namespace Go.Proofs.YtlfcdmibknmjeaaGreatDoor.E
open Go Go.Proofs.YtlfcdmibknmjeaaGreatDoor.Ev
set_option linter.unusedSimpArgs false
def sgnL (z:Int) (l:List Int):List Int:=if z < 0 then 45 :: l else l
theorem wtext_v {z:Int} (hz:(limbs z.natAbs).length ≤ 1000):∃ s u,yK.V (W z)=some s∧Tells u z.natAbs∧toI s=sgnL z (toI u)∧s.size ≤ 1000001:=by
 obtain ⟨u,u1,u2⟩:=text_v hz
 have hw:=wtrim_v (decide (z < 0)) (lb_limbs z.natAbs) (by unfold Sz;omega)
 rw [sgn_W] at hw
 have hw':yy.V (W z)=_:=hw
 obtain ⟨t1,t2,t3,t4⟩:=u2
 by_cases h:z < 0
 ·refine ⟨ByteArray.mk #[45] ++ u,u,yK.v _ ?_,⟨t1,t2,t3,t4⟩,?_,?_⟩
  ·unfold yK.b
   rw [hw',Option.bind_some,wI_fst,wI_snd,dt' h,u1]
   simp only [cond_true,Option.bind_some]
   rw [dt' (by show 1 + u.size ≤ 68719476736;omega)]
   rfl
  ·rw [toI_app]
   unfold sgnL
   rw [if_pos h]
   rfl
  ·rw [← toI_len,toI_app,List.length_append,toI_len,toI_len]
   show 1 + u.size ≤ 1000001
   omega
 ·refine ⟨u,u,yK.v _ ?_,⟨t1,t2,t3,t4⟩,?_,by omega⟩
  ·unfold yK.b
   rw [hw',Option.bind_some,wI_fst,wI_snd,df' h,u1]
   rfl
  ·unfold sgnL
   rw [if_neg h]
def Ex (s:ByteArray) (z:Int) (d:Nat):Prop:=∃ u v,Tells u z.natAbs∧Tells v d∧(toI s=sgnL z (toI u) ++ []∧toI v=[49] ∨ toI s=sgnL z (toI u) ++ 47 :: toI v)
theorem exact_v {z:Int} {d:Nat} (h:Can z d):∃ s,ym.V (R z d)=some s∧Ex s z d:=by
 have h3:=h.2.2.1
 have h4:=h.2.2.2
 obtain ⟨s,u,s1,s2,s3,s4⟩:=wtext_v (z:=z) (by omega)
 obtain ⟨v,v1,v2⟩:=text_v (n:=d) (by omega)
 have s1':yK.V (R z d).1=_:=s1
 have v1':zf.V (R z d).2.1=_:=v1
 by_cases he:strEq v (ByteArray.mk #[49])=true
 ·refine ⟨s,ym.v _ ?_,u,v,s2,v2,.inl ⟨by rw [s3,List.append_nil],?_⟩⟩
  ·unfold ym.b
   rw [goodR_v h,s1',v1']
   simp only [Option.bind_some,Bool.not_true,cond_false]
   rw [he]
   rfl
  ·rw [strEq_eq he]
   rfl
 ·have he':strEq v (ByteArray.mk #[49])=false:=by simpa using he
  have hv:=v2.2.2.2
  refine ⟨s ++ (ByteArray.mk #[47] ++ v),ym.v _ ?_,u,v,s2,v2,.inr ?_⟩
  ·unfold ym.b
   rw [goodR_v h,s1',v1']
   simp only [Option.bind_some,Bool.not_true,cond_false]
   have hsz:(ByteArray.mk #[47] ++ v).size=1 + v.size:=by
    rw [← toI_len,toI_app,List.length_append,toI_len,toI_len]
    rfl
   rw [he',dt' (by show 1 + v.size ≤ 68719476736;omega),hsz,dt' (by omega)]
   rfl
  ·rw [toI_app,toI_app,s3]
   rfl
theorem exact_0:ym.V R0=some (ByteArray.mk #[]):=by
 refine ym.v _ ?_
 unfold ym.b
 have hg:=good_v false (a:=[]) (b:=[]) .nil .nil (by simp) (by simp)
 have hb:goodB false [] []=false:=by
  unfold goodB
  rw [df' (c:=0 < ([]:List Int).length) (by simp)]
  simp
 rw [hb] at hg
 have hg':yu.V R0=_:=hg
 rw [hg']
 rfl
theorem Ex.pos {s:ByteArray} {z:Int} {d:Nat} (h:Ex s z d):s ≠ ByteArray.mk #[]:=by
 obtain ⟨u,v,hu,_,h⟩:=h
 intro hs
 subst hs
 have hu0:0 < (toI u).length:=by rw [toI_len];exact hu.2.2.1
 have hl:0 < (sgnL z (toI u)).length:=by
  unfold sgnL
  split
  ·rw [List.length_cons];omega
  ·exact hu0
 have h0:(toI (ByteArray.mk #[])).length=0:=rfl
 rcases h with ⟨h,_⟩ | h
 ·rw [h,List.length_append] at h0
  omega
 ·rw [h,List.length_append] at h0
  omega
def Tail (t:List Int):Prop:=t=[] ∨ ∃ v,t=47 :: v
theorem split_eq:∀ {u u' t t':List Int},IsD u→IsD u'→Tail t→Tail t'→u ++ t=u' ++ t'→u=u'∧t=t'
 | [],[],_,_,_,_,_,_,h=>⟨rfl,h⟩
 | [],x :: u',t,t',_,hu',ht,_,h=>by
  have hx:=hu' x (by simp)
  rcases ht with rfl | ⟨v,rfl⟩
  ·cases h
  ·have:=(List.cons.inj h).1
   omega
 | x :: u,[],t,t',hu,_,_,ht',h=>by
  have hx:=hu x (by simp)
  rcases ht' with rfl | ⟨v,rfl⟩
  ·cases h
  ·have:=(List.cons.inj h).1
   omega
 | x :: u,y :: u',t,t',hu,hu',ht,ht',h=>by
  obtain ⟨h1,h2⟩:=List.cons.inj h
  obtain ⟨r1,r2⟩:=split_eq (fun z hz=>hu z (List.mem_cons_of_mem _ hz)) (fun z hz=>hu' z (List.mem_cons_of_mem _ hz)) ht ht' h2
  exact ⟨by rw [h1,r1],r2⟩
theorem hd_dig {l:List Int} (h:IsD l) (h0:0 < l.length) {t r:List Int}:l ++ t ≠ 45 :: r:=by
 cases l with
 | nil=>exact absurd h0 (by simp)
 | cons x l =>
  intro e
  have h1:=(List.cons.inj e).1
  have h2:=h x (by simp)
  omega
theorem Ex.inj {s:ByteArray} {z w:Int} {d e:Nat} (h:Ex s z d) (h':Ex s w e):z=w∧d=e:=by
 obtain ⟨u,v,hu,hv,h⟩:=h
 obtain ⟨u',v',hu',hv',h'⟩:=h'
 obtain ⟨t,ht,ht1,ht2⟩:∃ t,Tail t∧toI s=sgnL z (toI u) ++ t∧(t=[]∧toI v=[49] ∨ t=47 :: toI v):=by
  rcases h with ⟨h1,h2⟩ | h1
  ·exact ⟨[],.inl rfl,h1,.inl ⟨rfl,h2⟩⟩
  ·exact ⟨_,.inr ⟨_,rfl⟩,h1,.inr rfl⟩
 obtain ⟨t',ht',ht1',ht2'⟩:∃ t,Tail t∧toI s=sgnL w (toI u') ++ t∧(t=[]∧toI v'=[49] ∨ t=47 :: toI v'):=by
  rcases h' with ⟨h1,h2⟩ | h1
  ·exact ⟨[],.inl rfl,h1,.inl ⟨rfl,h2⟩⟩
  ·exact ⟨_,.inr ⟨_,rfl⟩,h1,.inr rfl⟩
 rw [ht1] at ht1'
 have hu0:0 < (toI u).length:=by rw [toI_len];exact hu.2.2.1
 have hu0':0 < (toI u').length:=by rw [toI_len];exact hu'.2.2.1
 have key:(z < 0 ↔ w < 0)∧toI u ++ t=toI u' ++ t':=by
  unfold sgnL at ht1'
  by_cases hz:z < 0
  ·rw [if_pos hz] at ht1'
   by_cases hw:w < 0
   ·rw [if_pos hw] at ht1'
    exact ⟨⟨fun _=>hw,fun _=>hz⟩,(List.cons.inj ht1').2⟩
   ·rw [if_neg hw] at ht1'
    exact absurd ht1'.symm (hd_dig hu'.1 hu0')
  ·rw [if_neg hz] at ht1'
   by_cases hw:w < 0
   ·rw [if_pos hw] at ht1'
    exact absurd ht1' (hd_dig hu.1 hu0)
   ·rw [if_neg hw] at ht1'
    exact ⟨⟨fun h=>absurd h hz,fun h=>absurd h hw⟩,ht1'⟩
 obtain ⟨k1,k2⟩:=key
 obtain ⟨r1,r2⟩:=split_eq hu.1 hu'.1 ht ht' k2
 have hn:z.natAbs=w.natAbs:=by rw [← hu.2.1,← hu'.2.1,r1]
 refine ⟨by omega,?_⟩
 rw [← hv.2.1,← hv'.2.1]
 rcases ht2 with ⟨a1,a2⟩ | a1
 ·rcases ht2' with ⟨b1,b2⟩ | b1
  ·rw [a2,b2]
  ·rw [a1,b1] at r2
   cases r2
 ·rcases ht2' with ⟨b1,b2⟩ | b1
  ·rw [a1,b1] at r2
   cases r2
  ·rw [a1,b1] at r2
   rw [(List.cons.inj r2).2]
end Go.Proofs.YtlfcdmibknmjeaaGreatDoor.E
end
