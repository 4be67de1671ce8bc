import Derived.Test.YtlfcdmibknmjeaaGreatDoorYEvA2
namespace Go.Proofs.YtlfcdmibknmjeaaGreatDoor.E
open Go Go.Proofs.YtlfcdmibknmjeaaGreatDoor.Ev
def Lb (a:List Int):Prop:=∀ x ∈ a,0 ≤ x∧x < 4294967296
def val:List Int→Nat
 | []=>0
 | x :: a=>x.toNat + 4294967296 * val a
def limbs (n:Nat):List Int:=if _h:n=0 then [] else ((n % 4294967296:Nat):Int) :: limbs (n / 4294967296)
termination_by n
decreasing_by omega
theorem limbs_zero:limbs 0=[]:=by rw [limbs];rfl
theorem limbs_pos {n:Nat} (h:0 < n):limbs n=((n % 4294967296:Nat):Int) :: limbs (n / 4294967296):=by
 rw [limbs,dif_neg (by omega)]
theorem Lb.nil:Lb []:=fun x h=>by cases h
theorem Lb.cons {x:Int} {a:List Int} (hx:0 ≤ x∧x < 4294967296) (h:Lb a):Lb (x :: a):=fun y hy=>by
 rcases List.mem_cons.1 hy with rfl | hy
 ·exact hx
 ·exact h y hy
theorem Lb.hd {x:Int} {a:List Int} (h:Lb (x :: a)):0 ≤ x∧x < 4294967296:=h x (by simp)
theorem Lb.tl {x:Int} {a:List Int} (h:Lb (x :: a)):Lb a:=fun y hy=>h y (List.mem_cons_of_mem _ hy)
theorem Lb.take {a:List Int} (h:Lb a) (n:Nat):Lb (a.take n):=fun x hx=>h x (List.mem_of_mem_take hx)
theorem Lb.drop {a:List Int} (h:Lb a) (n:Nat):Lb (a.drop n):=fun x hx=>h x (List.mem_of_mem_drop hx)
theorem Lb.app {a b:List Int} (h:Lb a) (h':Lb b):Lb (a ++ b):=fun x hx=>by
 rcases List.mem_append.1 hx with hx | hx
 ·exact h x hx
 ·exact h' x hx
theorem Lb.zeros (n:Nat):Lb (List.replicate n 0):=fun x hx=>by
 rw [List.eq_of_mem_replicate hx];omega
theorem val_limbs (n:Nat):val (limbs n)=n:=by
 induction n using Nat.strongRecOn with
 | ind n ih =>
  rcases Nat.eq_zero_or_pos n with rfl | h
  ·rw [limbs_zero];rfl
  ·rw [limbs_pos h,val,ih _ (by omega)]
   omega
theorem lb_limbs (n:Nat):Lb (limbs n):=by
 induction n using Nat.strongRecOn with
 | ind n ih =>
  rcases Nat.eq_zero_or_pos n with rfl | h
  ·rw [limbs_zero];exact .nil
  ·rw [limbs_pos h];exact .cons (by omega) (ih _ (by omega))
theorem limbs_len (n:Nat):∀ k,(limbs n).length ≤ k ↔ n < 4294967296 ^ k:=by
 induction n using Nat.strongRecOn with
 | ind n ih =>
  intro k
  rcases Nat.eq_zero_or_pos n with rfl | h
  ·rw [limbs_zero];simp [Nat.pow_pos]
  ·rw [limbs_pos h,List.length_cons]
   cases k with
   | zero=>simp;omega
   | succ k =>
    have:=ih (n / 4294967296) (by omega) k
    rw [Nat.pow_succ]
    constructor
    ·intro hl
     have:=this.1 (by omega)
     exact (Nat.div_lt_iff_lt_mul (by omega)).1 this
    ·intro hl
     have:=this.2 ((Nat.div_lt_iff_lt_mul (by omega)).2 hl)
     omega
theorem val_app:∀ (a b:List Int),val (a ++ b)=val a + 4294967296 ^ a.length * val b
 | [],b=>by simp [val]
 | x :: a,b=>by
  rw [List.cons_append,val,val_app a b,val,List.length_cons,Nat.pow_succ,Nat.mul_add,Nat.mul_comm (4294967296 ^ a.length) 4294967296,Nat.mul_assoc]
  omega
theorem val_zeros:∀ n,val (List.replicate n 0)=0
 | 0=>rfl
 | n + 1=>by rw [List.replicate_succ,val,val_zeros n];rfl
theorem val_lt:∀ {a:List Int},Lb a→val a < 4294967296 ^ a.length
 | [],_=>by simp [val]
 | x :: a,h=>by
  have h1:=h.hd
  have h2:=val_lt h.tl
  rw [val,List.length_cons,Nat.pow_succ]
  have:val a + 1 ≤ 4294967296 ^ a.length:=h2
  have:=Nat.mul_le_mul_left 4294967296 this
  omega
def usedN (a:List Int):Nat:=(limbs (val a)).length
theorem take_used:∀ {a:List Int},Lb a→a.take (usedN a)=limbs (val a)
 | [],_=>by unfold usedN;rw [show val []=0 from rfl,limbs_zero];rfl
 | x :: a,h=>by
  have h1:=h.hd
  have ih:=take_used h.tl
  unfold usedN at ih ⊢
  rcases Nat.eq_zero_or_pos (val (x :: a)) with h0 | h0
  ·rw [h0,limbs_zero];rfl
  ·rw [limbs_pos h0,List.length_cons,List.take_succ_cons]
   have e1:val (x :: a) % 4294967296=x.toNat:=by rw [val];omega
   have e2:val (x :: a) / 4294967296=val a:=by rw [val];omega
   rw [e1,e2,ih]
   congr 1
   omega
theorem used_le {a:List Int} (h:Lb a):usedN a ≤ a.length:=(limbs_len _ _).2 (val_lt h)
theorem used_zero {a:List Int}:usedN (a ++ [0])=usedN a:=by
 unfold usedN
 rw [val_app]
 simp [val]
theorem used_last {a:List Int} {x:Int} (h:Lb a) (hx:0 < x∧x < 4294967296):usedN (a ++ [x])=a.length + 1:=by
 have h1:usedN (a ++ [x]) ≤ (a ++ [x]).length:=used_le (h.app (.cons (by omega) .nil))
 have h2:¬ usedN (a ++ [x]) ≤ a.length:=fun hl=>by
  have:=(limbs_len _ _).1 hl
  rw [val_app] at this
  have hv:1 ≤ val [x]:=by simp [val];omega
  have:=Nat.mul_le_mul_left (4294967296 ^ a.length) hv
  omega
 simp only [List.length_append,List.length_singleton] at h1
 omega
theorem limbs_val {a:List Int} (h:Lb a) (hu:usedN a=a.length):limbs (val a)=a:=by
 rw [← take_used h,hu,List.take_length]
theorem limbs_inj {m n:Nat} (h:limbs m=limbs n):m=n:=by rw [← val_limbs m,← val_limbs n,h]
def hdI (a:List Int):Nat:=(a.headD 0).toNat
def addL:Nat→List Int→List Int→Nat→List Int
 | 0,_,_,_=>[]
 | k + 1,a,b,c=>(((hdI a + hdI b + c) % 4294967296:Nat):Int) :: addL k a.tail b.tail ((hdI a + hdI b + c) / 4294967296)
theorem val_hd (a:List Int):val a=hdI a + 4294967296 * val a.tail:=by
 cases a with
 | nil=>rfl
 | cons x a=>rfl
theorem addL_len:∀ k a b c,(addL k a b c).length=k
 | 0,_,_,_=>rfl
 | k + 1,a,b,c=>by rw [addL,List.length_cons,addL_len]
theorem lb_addL:∀ k a b c,Lb (addL k a b c)
 | 0,_,_,_=>.nil
 | k + 1,a,b,c=>.cons (by omega) (lb_addL k _ _ _)
theorem val_addL:∀ k a b c,val (addL k a b c)=(val a + val b + c) % 4294967296 ^ k
 | 0,a,b,c=>by rw [addL,Nat.pow_zero,Nat.mod_one];rfl
 | k + 1,a,b,c=>by
  rw [addL,val,val_addL k,Nat.pow_succ,Nat.mul_comm (4294967296 ^ k),Nat.mod_mul,val_hd a,val_hd b]
  have e1:(hdI a + 4294967296 * val a.tail + (hdI b + 4294967296 * val b.tail) + c) % 4294967296=(hdI a + hdI b + c) % 4294967296:=by omega
  have e2:(hdI a + 4294967296 * val a.tail + (hdI b + 4294967296 * val b.tail) + c) / 4294967296=val a.tail + val b.tail + (hdI a + hdI b + c) / 4294967296:=by omega
  rw [e1,e2]
  rfl
def subL:Nat→List Int→List Int→Nat→List Int
 | 0,_,_,_=>[]
 | k + 1,a,b,c=>(((4294967296 + hdI a - hdI b - c) % 4294967296:Nat):Int) :: subL k a.tail b.tail (if hdI a < hdI b + c then 1 else 0)
theorem subL_len:∀ k a b c,(subL k a b c).length=k
 | 0,_,_,_=>rfl
 | k + 1,a,b,c=>by rw [subL,List.length_cons,subL_len]
theorem lb_subL:∀ k a b c,Lb (subL k a b c)
 | 0,_,_,_=>.nil
 | k + 1,a,b,c=>.cons (by omega) (lb_subL k _ _ _)
theorem hdI_lt {a:List Int} (h:Lb a):hdI a < 4294967296:=by
 cases a with
 | nil=>decide
 | cons x a=>have:=h.hd;show x.toNat < _;omega
theorem Lb.tail {a:List Int} (h:Lb a):Lb a.tail:=by
 cases a with
 | nil=>exact .nil
 | cons x a=>exact h.tl
theorem val_subL:∀ k (a b:List Int) (c:Nat),Lb a→Lb b→c ≤ 1→a.length ≤ k→val b + c ≤ val a→val (subL k a b c) + (val b + c)=val a
 | 0,a,b,c,ha,_,_,hk,h=>by
  have:a=[]:=List.eq_nil_of_length_eq_zero (by omega)
  subst this
  have h:val b + c ≤ 0:=h
  rw [subL]
  show 0 + (val b + c)=0
  omega
 | k + 1,a,b,c,ha,hb,hc,hk,h=>by
  have h1:=hdI_lt ha
  have h2:=hdI_lt hb
  rw [subL,val]
  have ea:=val_hd a
  have eb:=val_hd b
  have hkt:a.tail.length ≤ k:=by rw [List.length_tail];omega
  by_cases hlt:hdI a < hdI b + c
  ·rw [if_pos hlt]
   have ih:=val_subL k a.tail b.tail 1 ha.tail hb.tail (by omega) hkt (by omega)
   omega
  ·rw [if_neg hlt]
   have ih:=val_subL k a.tail b.tail 0 ha.tail hb.tail (by omega) hkt (by omega)
   omega
end Go.Proofs.YtlfcdmibknmjeaaGreatDoor.E
