import Derived.Test.YtcajdkncohcaeaaDoorYTrB
namespace Go.Proofs.YtcajdkncohcaeaaDoor
set_option linter.unusedVariables false
set_option linter.unusedSimpArgs false
theorem zYTrDa {α : Type} (l : List α) (i : Nat) (a : α) : l.toArray.setIfInBounds i a = (l.set i a).toArray := by simp
theorem zYTrDb {α : Type} (l : List α) (a b : α) : (a :: l).set 0 b = b :: l := rfl
theorem zYTrDc {α : Type} (l : List α) (i : Nat) (a b : α) : (a :: l).set (i + 1) b = a :: l.set i b := rfl
open Go.RowKit Go.Proofs.YtcajdkncohcaeaaDoorW.PrintWords Go.Proofs.YtcajdkncohcaeaaDoorW.PrintLast Go.Proofs.YtcajdkncohcaeaaDoorW.PrintMore
set_option maxRecDepth 20000 in
set_option maxHeartbeats 8000000 in
theorem tbegin_two_noA (kd l r n po : Int) (tx un : ByteArray) (A : Option Addr) (m c : Nat) (w : World) (hk : 3 ≤ kd ∧ kd ≤ 6) (hm : (m : Int) < 4611686018427387904) (hno : (m : Int) < 2 ∨ r ≠ (m : Int) - 1) (hG : Glob w) :
 Calls Tryd.prog 64 #[.agg #[.int .i64 kd,.int .i64 l,.int .i64 r,.int .i64 n,.string tx,.string un,.int .i64 po],.slice A m c] w fun e w' => e = .returned (.tuple #[.int .i64 0,.bool false]) ∧ Below w.heap.size w w' := by
 obtain ⟨g,hg⟩ : ∃ g,w.heap.size = g := ⟨_,rfl⟩
 obtain ⟨W,hW⟩ : ∃ W,w.alloc (.cells #[.int .i64 kd,.int .i64 l,.int .i64 r,.int .i64 n,.string tx,.string un,.int .i64 po] 52) = W := ⟨_,rfl⟩
 have s1 : W.heap.size = g + 1 := by rw [← hW,← hg];simp
 have HBW : Hid (Below w.heap.size w W) := Lib.hid (by rw [← hW];exact alloc_keep _ _)
 have GG : Hid (∀ w' : World,Below W.heap.size W w' → Glob w') := Lib.hid (fun w' h => (hG.below HBW.out).below h)
 have hcell : W.cell? ⟨g,0,none⟩ = some (.int .i64 kd) ∧ W.cell? ⟨g,1,none⟩ = some (.int .i64 l) ∧ W.cell? ⟨g,2,none⟩ = some (.int .i64 r) ∧ W.cell? ⟨g,3,none⟩ = some (.int .i64 n) ∧ W.cell? ⟨g,4,none⟩ = some (.string tx) ∧ W.cell? ⟨g,5,none⟩ = some (.string un) ∧ W.cell? ⟨g,6,none⟩ = some (.int .i64 po) := by rw [← hW,← hg];simp
 have KS : Hid (∀ w' : World,Below W.heap.size W w' → (w'.cell? ⟨g,0,none⟩ = some (.int .i64 kd) ∧ w'.cell? ⟨g,1,none⟩ = some (.int .i64 l) ∧ w'.cell? ⟨g,2,none⟩ = some (.int .i64 r) ∧ w'.cell? ⟨g,3,none⟩ = some (.int .i64 n) ∧ w'.cell? ⟨g,4,none⟩ = some (.string tx) ∧ w'.cell? ⟨g,5,none⟩ = some (.string un) ∧ w'.cell? ⟨g,6,none⟩ = some (.int .i64 po) ∧ Below W.heap.size W w')) := Lib.hid (fun w' h => by
  obtain ⟨p0,p1,p2,p3,p4,p5,p6⟩ := hcell
  have mv : ∀ (j : Nat) (u : Value),W.cell? ⟨g,j,none⟩ = some u → w'.cell? ⟨g,j,none⟩ = some u := fun j u hu => (h.cell (p := ⟨g,j,none⟩) (show g < W.heap.size by omega)).trans hu
  exact ⟨mv 0 _ p0,mv 1 _ p1,mv 2 _ p2,mv 3 _ p3,mv 4 _ p4,mv 5 _ p5,mv 6 _ p6,h⟩)
 have HS := Lib.hid hW
 have KF : Hid (∀ w : World,Calls Tryd.prog 83 #[.agg #[.int .i64 kd,.int .i64 l,.int .i64 r,.int .i64 n,.string tx,.string un,.int .i64 po]] w fun e w' => e = .returned (.agg #[.int .i64 kd,.int .i64 n,.string tx,.string un]) ∧ Below w.heap.size w w') := Lib.hid (fun w => tfaced_at kd l r n po tx un w)
 have hBd : Below W.heap.size W W.drew := bl_drew (Below.refl _ _)
 clear hW hcell hG
 have hw : IntKind.i64.wrap ((m : Int) - 1) = (m : Int) - 1 := by rw [IntKind.wrap_i64];omega
 generalize h0 : decide ((m : Int) < 2) = q0
 generalize h1 : ((r : Int) != (m : Int) - 1) = q1
 have hq : q0 = true ∨ q1 = true := by
  rw [← h0,← h1];rcases hno with h | h
  ·exact .inl (decide_eq_true h)
  ·exact .inr (bne_iff_ne.mpr h)
 clear hno
 have k1 : ((kd : Int) == 1) = false := by rw [beq_eq_false_iff_ne];omega
 have k2 : ((kd : Int) == 2) = false := by rw [beq_eq_false_iff_ne];omega
 have k7 : ((kd : Int) == 7) = false := by rw [beq_eq_false_iff_ne];omega
 have k8 : ((kd : Int) == 8) = false := by rw [beq_eq_false_iff_ne];omega
 rcases (show ((kd : Int) == 3) = true ∨ (((kd : Int) == 3) = false ∧ ((kd : Int) == 4) = true) ∨ (((kd : Int) == 3) = false ∧ ((kd : Int) == 4) = false ∧ ((kd : Int) == 5) = true) ∨ (((kd : Int) == 3) = false ∧ ((kd : Int) == 4) = false ∧ ((kd : Int) == 5) = false ∧ ((kd : Int) == 6) = true) from by rcases (show kd = 3 ∨ kd = 4 ∨ kd = 5 ∨ kd = 6 from by omega) with h | h | h | h <;> subst h <;> simp) with k3 | ⟨k3,k4⟩ | ⟨k3,k4,k5⟩ | ⟨k3,k4,k5,k6⟩
 all_goals
  clear hk
  rcases (show q0 = true ∨ (q0 = false ∧ q1 = true) from by revert hq;cases q0 <;> cases q1 <;> simp) with rfl | ⟨rfl,rfl⟩
 all_goals
  go_enter Tryd.func64,Tryd.ntmps64
  go_wp2_with fail
  rw [HS.out]
  obtain ⟨p0,p1,p2,p3,p4,p5,p6,_⟩ := KS.out W (Below.refl _ _)
  go_wp2_with fail
  clear p0 p1 p2 p3 p4 p5 p6
  skip
  refine start_ (n := 25) (S := fun w' => w'.cell? ⟨g,0,none⟩ = some (.int .i64 kd) ∧ w'.cell? ⟨g,1,none⟩ = some (.int .i64 l) ∧ w'.cell? ⟨g,2,none⟩ = some (.int .i64 r) ∧ w'.cell? ⟨g,3,none⟩ = some (.int .i64 n) ∧ w'.cell? ⟨g,4,none⟩ = some (.string tx) ∧ w'.cell? ⟨g,5,none⟩ = some (.string un) ∧ w'.cell? ⟨g,6,none⟩ = some (.int .i64 po) ∧ Below W.heap.size W w') (ds := []) #[false,false,false,false,false,false,false,false,false,false,false,false,false,false,false,false,false,false,false,false,false,false,false,false,false] (by kernel_rfl) rfl rfl (KS.out _ hBd) (fun hHeld => ?_)
  refine with_tabW tbegin_tab20 tbegin_bits20 (fun HT_ HW_ => ?_)
  refine pure_ (i := 0) (N := (some 130)) (v := ?_) (a' := ?_) #[true,false,false,false,false,false,false,false,false,false,false,false,false,false,false,false,false,false,false,false,false,false,false,false,false] rfl rfl (any_of HT_.out (by kernel_rfl)) (fun _ _ _ h => h) (Or.inl ⟨by rfl,?_⟩) ?_ ?_
  rotate_left
  ·intro w'
   go_simp
   with_reducible rfl
  rotate_left
  ·simp only [Act.put,zYTrDa,zYTrDb,zYTrDc]
   rfl
  refine pure_ (i := 1) (N := (some 131)) (v := ?_) (a' := ?_) #[true,true,false,false,false,false,false,false,false,false,false,false,false,false,false,false,false,false,false,false,false,false,false,false,false] rfl rfl (any_of HT_.out (by kernel_rfl)) (fun _ _ _ h => h) (Or.inl ⟨by rfl,?_⟩) ?_ ?_
  rotate_left
  ·intro w'
   go_simp
   with_reducible rfl
  rotate_left
  ·simp only [Act.put,zYTrDa,zYTrDb,zYTrDc]
   rfl
  refine pure_ (i := 2) (N := (some 132)) (v := ?_) (a' := ?_) #[true,true,true,false,false,false,false,false,false,false,false,false,false,false,false,false,false,false,false,false,false,false,false,false,false] rfl rfl (any_of HT_.out (by kernel_rfl)) (fun _ _ _ h => h) (Or.inl ⟨by rfl,?_⟩) ?_ ?_
  rotate_left
  ·intro w'
   go_simp
   with_reducible rfl
  rotate_left
  ·simp only [Act.put,zYTrDa,zYTrDb,zYTrDc]
   rfl
  first
  |(refine pure_ (i := 3) (N := (some 133)) (v := ?_) (a' := ?_) #[true,true,true,true,false,false,false,false,false,false,false,false,false,false,false,false,false,false,false,false,false,false,false,false,false] rfl rfl (any_of HT_.out (by kernel_rfl)) (fun _ _ _ h => h) (Or.inl ⟨by rfl,?_⟩) ?_ ?_
    rotate_left
    ·intro w'
     go_simp
     with_reducible rfl
    rotate_left
    ·simp only [Act.put,zYTrDa,zYTrDb,zYTrDc]
     rfl)
  |(refine pure_ (i := 3) (N := (some 133)) (v := undef) (a' := ?_) #[true,true,true,true,false,false,false,false,false,false,false,false,false,false,false,false,false,false,false,false,false,false,false,false,false] rfl rfl (any_of HT_.out (by kernel_rfl)) (fun _ _ _ h => h) (Or.inr ⟨by rfl,rfl⟩) ?_ ?_
    rotate_left
    ·simp only [Act.put,zYTrDa,zYTrDb,zYTrDc]
     rfl)
  first
  |(refine pure_ (i := 5) (N := (some 135)) (v := ?_) (a' := ?_) #[true,true,true,true,false,true,false,false,false,false,false,false,false,false,false,false,false,false,false,false,false,false,false,false,false] rfl rfl (any_of HT_.out (by kernel_rfl)) (fun _ _ _ h => h) (Or.inl ⟨by rfl,?_⟩) ?_ ?_
    rotate_left
    ·intro w'
     go_simp
     with_reducible rfl
    rotate_left
    ·simp only [Act.put,zYTrDa,zYTrDb,zYTrDc]
     rfl)
  |(refine pure_ (i := 5) (N := (some 135)) (v := undef) (a' := ?_) #[true,true,true,true,false,true,false,false,false,false,false,false,false,false,false,false,false,false,false,false,false,false,false,false,false] rfl rfl (any_of HT_.out (by kernel_rfl)) (fun _ _ _ h => h) (Or.inr ⟨by rfl,rfl⟩) ?_ ?_
    rotate_left
    ·simp only [Act.put,zYTrDa,zYTrDb,zYTrDc]
     rfl)
  first
  |(refine pure_ (i := 6) (N := (some 136)) (v := ?_) (a' := ?_) #[true,true,true,true,false,true,true,false,false,false,false,false,false,false,false,false,false,false,false,false,false,false,false,false,false] rfl rfl (any_of HT_.out (by kernel_rfl)) (fun _ _ _ h => h) (Or.inl ⟨by rfl,?_⟩) ?_ ?_
    rotate_left
    ·intro w'
     go_simp
     with_reducible rfl
    rotate_left
    ·simp only [Act.put,zYTrDa,zYTrDb,zYTrDc]
     rfl)
  |(refine pure_ (i := 6) (N := (some 136)) (v := undef) (a' := ?_) #[true,true,true,true,false,true,true,false,false,false,false,false,false,false,false,false,false,false,false,false,false,false,false,false,false] rfl rfl (any_of HT_.out (by kernel_rfl)) (fun _ _ _ h => h) (Or.inr ⟨by rfl,rfl⟩) ?_ ?_
    rotate_left
    ·simp only [Act.put,zYTrDa,zYTrDb,zYTrDc]
     rfl)
  first
  |(refine take_ (i := 4) (N := (some 134)) (v := ?_) (a' := ?_) #[true,true,true,true,true,true,true,false,false,false,false,false,false,false,false,false,false,false,false,false,false,false,false,false,false] rfl rfl (take_ofW HT_.out HW_.out (by kernel_rfl)) (fun _ _ _ h => h) (Or.inl ⟨by rfl,?_⟩) hHeld ?_ ?_
    rotate_left
    ·rintro w' ⟨s0,s1,s2,s3,s4,s5,s6,_⟩
     go_simp
     with_reducible rfl
    rotate_left
    ·simp only [Act.put,zYTrDa,zYTrDb,zYTrDc]
     rfl)
  |(refine pure_ (i := 4) (N := (some 134)) (v := undef) (a' := ?_) #[true,true,true,true,true,true,true,false,false,false,false,false,false,false,false,false,false,false,false,false,false,false,false,false,false] rfl rfl (any_of HT_.out (by kernel_rfl)) (fun _ _ _ h => h) (Or.inr ⟨by rfl,rfl⟩) ?_ ?_
    rotate_left
    ·simp only [Act.put,zYTrDa,zYTrDb,zYTrDc]
     rfl)
  first
  |(refine pure_ (i := 7) (N := (some 137)) (v := ?_) (a' := ?_) #[true,true,true,true,true,true,true,true,false,false,false,false,false,false,false,false,false,false,false,false,false,false,false,false,false] rfl rfl (any_of HT_.out (by kernel_rfl)) (fun _ _ _ h => h) (Or.inl ⟨by rfl,?_⟩) ?_ ?_
    rotate_left
    ·intro w'
     go_simp
     with_reducible rfl
    rotate_left
    ·simp only [Act.put,zYTrDa,zYTrDb,zYTrDc]
     rfl)
  |(refine pure_ (i := 7) (N := (some 137)) (v := undef) (a' := ?_) #[true,true,true,true,true,true,true,true,false,false,false,false,false,false,false,false,false,false,false,false,false,false,false,false,false] rfl rfl (any_of HT_.out (by kernel_rfl)) (fun _ _ _ h => h) (Or.inr ⟨by rfl,rfl⟩) ?_ ?_
    rotate_left
    ·simp only [Act.put,zYTrDa,zYTrDb,zYTrDc]
     rfl)
  refine pure_ (i := 8) (N := (some 138)) (v := ?_) (a' := ?_) #[true,true,true,true,true,true,true,true,true,false,false,false,false,false,false,false,false,false,false,false,false,false,false,false,false] rfl rfl (any_of HT_.out (by kernel_rfl)) (fun _ _ _ h => h) (Or.inl ⟨by rfl,?_⟩) ?_ ?_
  rotate_left
  ·intro w'
   go_simp
   with_reducible rfl
  rotate_left
  ·simp only [Act.put,zYTrDa,zYTrDb,zYTrDc]
   rfl
  refine pure_ (i := 9) (N := (some 139)) (v := ?_) (a' := ?_) #[true,true,true,true,true,true,true,true,true,true,false,false,false,false,false,false,false,false,false,false,false,false,false,false,false] rfl rfl (any_of HT_.out (by kernel_rfl)) (fun _ _ _ h => h) (Or.inl ⟨by rfl,?_⟩) ?_ ?_
  rotate_left
  ·intro w'
   go_simp
   with_reducible rfl
  rotate_left
  ·simp only [Act.put,zYTrDa,zYTrDb,zYTrDc]
   rfl
  first
  |(refine pure_ (i := 10) (N := (some 140)) (v := ?_) (a' := ?_) #[true,true,true,true,true,true,true,true,true,true,true,false,false,false,false,false,false,false,false,false,false,false,false,false,false] rfl rfl (any_of HT_.out (by kernel_rfl)) (fun _ _ _ h => h) (Or.inl ⟨by rfl,?_⟩) ?_ ?_
    rotate_left
    ·intro w'
     go_simp
     with_reducible rfl
    rotate_left
    ·simp only [Act.put,zYTrDa,zYTrDb,zYTrDc]
     rfl)
  |(refine pure_ (i := 10) (N := (some 140)) (v := undef) (a' := ?_) #[true,true,true,true,true,true,true,true,true,true,true,false,false,false,false,false,false,false,false,false,false,false,false,false,false] rfl rfl (any_of HT_.out (by kernel_rfl)) (fun _ _ _ h => h) (Or.inr ⟨by rfl,rfl⟩) ?_ ?_
    rotate_left
    ·simp only [Act.put,zYTrDa,zYTrDb,zYTrDc]
     rfl)
  first
  |(refine pure_ (i := 12) (N := (some 142)) (v := ?_) (a' := ?_) #[true,true,true,true,true,true,true,true,true,true,true,false,true,false,false,false,false,false,false,false,false,false,false,false,false] rfl rfl (any_of HT_.out (by kernel_rfl)) (fun _ _ _ h => h) (Or.inl ⟨by rfl,?_⟩) ?_ ?_
    rotate_left
    ·intro w'
     go_simp
     with_reducible rfl
    rotate_left
    ·simp only [Act.put,zYTrDa,zYTrDb,zYTrDc]
     rfl)
  |(refine pure_ (i := 12) (N := (some 142)) (v := undef) (a' := ?_) #[true,true,true,true,true,true,true,true,true,true,true,false,true,false,false,false,false,false,false,false,false,false,false,false,false] rfl rfl (any_of HT_.out (by kernel_rfl)) (fun _ _ _ h => h) (Or.inr ⟨by rfl,rfl⟩) ?_ ?_
    rotate_left
    ·simp only [Act.put,zYTrDa,zYTrDb,zYTrDc]
     rfl)
  first
  |(refine pure_ (i := 13) (N := (some 143)) (v := ?_) (a' := ?_) #[true,true,true,true,true,true,true,true,true,true,true,false,true,true,false,false,false,false,false,false,false,false,false,false,false] rfl rfl (any_of HT_.out (by kernel_rfl)) (fun _ _ _ h => h) (Or.inl ⟨by rfl,?_⟩) ?_ ?_
    rotate_left
    ·intro w'
     go_simp
     with_reducible rfl
    rotate_left
    ·simp only [Act.put,zYTrDa,zYTrDb,zYTrDc]
     rfl)
  |(refine pure_ (i := 13) (N := (some 143)) (v := undef) (a' := ?_) #[true,true,true,true,true,true,true,true,true,true,true,false,true,true,false,false,false,false,false,false,false,false,false,false,false] rfl rfl (any_of HT_.out (by kernel_rfl)) (fun _ _ _ h => h) (Or.inr ⟨by rfl,rfl⟩) ?_ ?_
    rotate_left
    ·simp only [Act.put,zYTrDa,zYTrDb,zYTrDc]
     rfl)
  first
  |(refine take_ (i := 11) (N := (some 141)) (v := ?_) (a' := ?_) #[true,true,true,true,true,true,true,true,true,true,true,true,true,true,false,false,false,false,false,false,false,false,false,false,false] rfl rfl (take_ofW HT_.out HW_.out (by kernel_rfl)) (fun _ _ _ h => h) (Or.inl ⟨by rfl,?_⟩) hHeld ?_ ?_
    rotate_left
    ·rintro w' ⟨s0,s1,s2,s3,s4,s5,s6,_⟩
     go_simp
     with_reducible rfl
    rotate_left
    ·simp only [Act.put,zYTrDa,zYTrDb,zYTrDc]
     rfl)
  |(refine pure_ (i := 11) (N := (some 141)) (v := undef) (a' := ?_) #[true,true,true,true,true,true,true,true,true,true,true,true,true,true,false,false,false,false,false,false,false,false,false,false,false] rfl rfl (any_of HT_.out (by kernel_rfl)) (fun _ _ _ h => h) (Or.inr ⟨by rfl,rfl⟩) ?_ ?_
    rotate_left
    ·simp only [Act.put,zYTrDa,zYTrDb,zYTrDc]
     rfl)
  first
  |(refine take_ (i := 14) (N := (some 144)) (v := ?_) (a' := ?_) #[true,true,true,true,true,true,true,true,true,true,true,true,true,true,true,false,false,false,false,false,false,false,false,false,false] rfl rfl (take_ofW HT_.out HW_.out (by kernel_rfl)) (fun _ _ _ h => h) (Or.inl ⟨by rfl,?_⟩) hHeld ?_ ?_
    rotate_left
    ·rintro w' ⟨s0,s1,s2,s3,s4,s5,s6,_⟩
     go_simp
     with_reducible rfl
    rotate_left
    ·simp only [Act.put,zYTrDa,zYTrDb,zYTrDc]
     rfl)
  |(refine pure_ (i := 14) (N := (some 144)) (v := undef) (a' := ?_) #[true,true,true,true,true,true,true,true,true,true,true,true,true,true,true,false,false,false,false,false,false,false,false,false,false] rfl rfl (any_of HT_.out (by kernel_rfl)) (fun _ _ _ h => h) (Or.inr ⟨by rfl,rfl⟩) ?_ ?_
    rotate_left
    ·simp only [Act.put,zYTrDa,zYTrDb,zYTrDc]
     rfl)
  first
  |(refine pure_ (i := 15) (N := (some 145)) (v := ?_) (a' := ?_) #[true,true,true,true,true,true,true,true,true,true,true,true,true,true,true,true,false,false,false,false,false,false,false,false,false] rfl rfl (any_of HT_.out (by kernel_rfl)) (fun _ _ _ h => h) (Or.inl ⟨by rfl,?_⟩) ?_ ?_
    rotate_left
    ·intro w'
     go_simp
     with_reducible rfl
    rotate_left
    ·simp only [Act.put,zYTrDa,zYTrDb,zYTrDc]
     rfl)
  |(refine pure_ (i := 15) (N := (some 145)) (v := undef) (a' := ?_) #[true,true,true,true,true,true,true,true,true,true,true,true,true,true,true,true,false,false,false,false,false,false,false,false,false] rfl rfl (any_of HT_.out (by kernel_rfl)) (fun _ _ _ h => h) (Or.inr ⟨by rfl,rfl⟩) ?_ ?_
    rotate_left
    ·simp only [Act.put,zYTrDa,zYTrDb,zYTrDc]
     rfl)
  first
  |(refine take_ (i := 16) (N := (some 146)) (v := ?_) (a' := ?_) #[true,true,true,true,true,true,true,true,true,true,true,true,true,true,true,true,true,false,false,false,false,false,false,false,false] rfl rfl (take_ofW HT_.out HW_.out (by kernel_rfl)) (fun _ _ _ h => h) (Or.inl ⟨by rfl,?_⟩) hHeld ?_ ?_
    rotate_left
    ·rintro w' ⟨s0,s1,s2,s3,s4,s5,s6,_⟩
     go_simp
     with_reducible rfl
    rotate_left
    ·simp only [Act.put,zYTrDa,zYTrDb,zYTrDc]
     rfl)
  |(refine pure_ (i := 16) (N := (some 146)) (v := undef) (a' := ?_) #[true,true,true,true,true,true,true,true,true,true,true,true,true,true,true,true,true,false,false,false,false,false,false,false,false] rfl rfl (any_of HT_.out (by kernel_rfl)) (fun _ _ _ h => h) (Or.inr ⟨by rfl,rfl⟩) ?_ ?_
    rotate_left
    ·simp only [Act.put,zYTrDa,zYTrDb,zYTrDc]
     rfl)
  first
  |(refine pure_ (i := 17) (N := (some 147)) (v := ?_) (a' := ?_) #[true,true,true,true,true,true,true,true,true,true,true,true,true,true,true,true,true,true,false,false,false,false,false,false,false] rfl rfl (any_of HT_.out (by kernel_rfl)) (fun _ _ _ h => h) (Or.inl ⟨by rfl,?_⟩) ?_ ?_
    rotate_left
    ·intro w'
     go_simp
     with_reducible rfl
    rotate_left
    ·simp only [Act.put,zYTrDa,zYTrDb,zYTrDc]
     rfl)
  |(refine pure_ (i := 17) (N := (some 147)) (v := undef) (a' := ?_) #[true,true,true,true,true,true,true,true,true,true,true,true,true,true,true,true,true,true,false,false,false,false,false,false,false] rfl rfl (any_of HT_.out (by kernel_rfl)) (fun _ _ _ h => h) (Or.inr ⟨by rfl,rfl⟩) ?_ ?_
    rotate_left
    ·simp only [Act.put,zYTrDa,zYTrDb,zYTrDc]
     rfl)
  first
  |(refine pure_ (i := 18) (N := (some 148)) (v := ?_) (a' := ?_) #[true,true,true,true,true,true,true,true,true,true,true,true,true,true,true,true,true,true,true,false,false,false,false,false,false] rfl rfl (any_of HT_.out (by kernel_rfl)) (fun _ _ _ h => h) (Or.inl ⟨by rfl,?_⟩) ?_ ?_
    rotate_left
    ·intro w'
     go_simp
     with_reducible rfl
    rotate_left
    ·simp only [Act.put,zYTrDa,zYTrDb,zYTrDc]
     rfl)
  |(refine pure_ (i := 18) (N := (some 148)) (v := undef) (a' := ?_) #[true,true,true,true,true,true,true,true,true,true,true,true,true,true,true,true,true,true,true,false,false,false,false,false,false] rfl rfl (any_of HT_.out (by kernel_rfl)) (fun _ _ _ h => h) (Or.inr ⟨by rfl,rfl⟩) ?_ ?_
    rotate_left
    ·simp only [Act.put,zYTrDa,zYTrDb,zYTrDc]
     rfl)
  refine pure_ (i := 19) (N := (some 149)) (v := ?_) (a' := ?_) #[true,true,true,true,true,true,true,true,true,true,true,true,true,true,true,true,true,true,true,true,false,false,false,false,false] rfl rfl (any_of HT_.out (by kernel_rfl)) (fun _ _ _ h => h) (Or.inl ⟨by rfl,?_⟩) ?_ ?_
  rotate_left
  ·intro w'
   go_simp
   with_reducible rfl
  rotate_left
  ·simp only [Act.put,zYTrDa,zYTrDb,zYTrDc]
   rfl
  refine pure_ (i := 20) (N := (some 150)) (v := ?_) (a' := ?_) #[true,true,true,true,true,true,true,true,true,true,true,true,true,true,true,true,true,true,true,true,true,false,false,false,false] rfl rfl (any_of HT_.out (by kernel_rfl)) (fun _ _ _ h => h) (Or.inl ⟨by rfl,?_⟩) ?_ ?_
  rotate_left
  ·intro w'
   go_simp
   with_reducible rfl
  rotate_left
  ·simp only [Act.put,zYTrDa,zYTrDb,zYTrDc]
   rfl
  first
  |(refine pure_ (i := 21) (N := (some 151)) (v := ?_) (a' := ?_) #[true,true,true,true,true,true,true,true,true,true,true,true,true,true,true,true,true,true,true,true,true,true,false,false,false] rfl rfl (any_of HT_.out (by kernel_rfl)) (fun _ _ _ h => h) (Or.inl ⟨by rfl,?_⟩) ?_ ?_
    rotate_left
    ·intro w'
     go_simp
     with_reducible rfl
    rotate_left
    ·simp only [Act.put,zYTrDa,zYTrDb,zYTrDc]
     rfl)
  |(refine pure_ (i := 21) (N := (some 151)) (v := undef) (a' := ?_) #[true,true,true,true,true,true,true,true,true,true,true,true,true,true,true,true,true,true,true,true,true,true,false,false,false] rfl rfl (any_of HT_.out (by kernel_rfl)) (fun _ _ _ h => h) (Or.inr ⟨by rfl,rfl⟩) ?_ ?_
    rotate_left
    ·simp only [Act.put,zYTrDa,zYTrDb,zYTrDc]
     rfl)
  first
  |(refine take_ (i := 22) (N := (some 152)) (v := ?_) (a' := ?_) #[true,true,true,true,true,true,true,true,true,true,true,true,true,true,true,true,true,true,true,true,true,true,true,false,false] rfl rfl (take_ofW HT_.out HW_.out (by kernel_rfl)) (fun _ _ _ h => h) (Or.inl ⟨by rfl,?_⟩) hHeld ?_ ?_
    rotate_left
    ·rintro w' ⟨s0,s1,s2,s3,s4,s5,s6,_⟩
     go_simp
     with_reducible rfl
    rotate_left
    ·simp only [Act.put,zYTrDa,zYTrDb,zYTrDc]
     rfl)
  |(refine pure_ (i := 22) (N := (some 152)) (v := undef) (a' := ?_) #[true,true,true,true,true,true,true,true,true,true,true,true,true,true,true,true,true,true,true,true,true,true,true,false,false] rfl rfl (any_of HT_.out (by kernel_rfl)) (fun _ _ _ h => h) (Or.inr ⟨by rfl,rfl⟩) ?_ ?_
    rotate_left
    ·simp only [Act.put,zYTrDa,zYTrDb,zYTrDc]
     rfl)
  first
  |(refine pure_ (i := 23) (N := (some 153)) (v := ?_) (a' := ?_) #[true,true,true,true,true,true,true,true,true,true,true,true,true,true,true,true,true,true,true,true,true,true,true,true,false] rfl rfl (any_of HT_.out (by kernel_rfl)) (fun _ _ _ h => h) (Or.inl ⟨by rfl,?_⟩) ?_ ?_
    rotate_left
    ·intro w'
     go_simp
     with_reducible rfl
    rotate_left
    ·simp only [Act.put,zYTrDa,zYTrDb,zYTrDc]
     rfl)
  |(refine pure_ (i := 23) (N := (some 153)) (v := undef) (a' := ?_) #[true,true,true,true,true,true,true,true,true,true,true,true,true,true,true,true,true,true,true,true,true,true,true,true,false] rfl rfl (any_of HT_.out (by kernel_rfl)) (fun _ _ _ h => h) (Or.inr ⟨by rfl,rfl⟩) ?_ ?_
    rotate_left
    ·simp only [Act.put,zYTrDa,zYTrDb,zYTrDc]
     rfl)
  refine pure_ (i := 24) (N := (some 154)) (v := ?_) (a' := ?_) #[true,true,true,true,true,true,true,true,true,true,true,true,true,true,true,true,true,true,true,true,true,true,true,true,true] rfl rfl (any_of HT_.out (by kernel_rfl)) (fun _ _ _ h => h) (Or.inl ⟨by rfl,?_⟩) ?_ ?_
  rotate_left
  ·intro w'
   go_simp
   with_reducible rfl
  rotate_left
  ·simp only [Act.put,zYTrDa,zYTrDb,zYTrDc]
   rfl
  refine done_ (done_of HT_.out (by kernel_rfl)) ?_
  have HB2 := Lib.hid (HBW.out.trans (hBd.mono HBW.out.size))
  go_wp2_with fail
  exact bodyPost_ret (v := .tuple #[.int .i64 0,.bool false]) (by simp [results,Tryd.results64,go_sem]) rfl ⟨rfl,by first | exact HB2.out | (rw [← hg];exact HB2.out)⟩
set_option maxRecDepth 20000 in
set_option maxHeartbeats 8000000 in
theorem tbegin_two_noC (kd l r n po : Int) (tx un : ByteArray) (ad : Addr) (m c : Nat) (ev : Int) (w : World) (hk : 3 ≤ kd ∧ kd ≤ 6) (hm : (m : Int) < 4611686018427387904) (h2 : 2 ≤ (m : Int)) (hr : r = (m : Int) - 1) (hx0 : w.cell? (ad.add r.toNat) = some (.int .i64 ev)) (he : -4611686018427387904 ≤ ev ∧ ev ≤ 4611686018427387904) (hno : l ≠ ev - 1 ∨ l < 0) (hG : Glob w) :
 Calls Tryd.prog 64 #[.agg #[.int .i64 kd,.int .i64 l,.int .i64 r,.int .i64 n,.string tx,.string un,.int .i64 po],.slice (some ad) m c] w fun e w' => e = .returned (.tuple #[.int .i64 0,.bool false]) ∧ Below w.heap.size w w' := by
 obtain ⟨g,hg⟩ : ∃ g,w.heap.size = g := ⟨_,rfl⟩
 obtain ⟨W,hW⟩ : ∃ W,w.alloc (.cells #[.int .i64 kd,.int .i64 l,.int .i64 r,.int .i64 n,.string tx,.string un,.int .i64 po] 52) = W := ⟨_,rfl⟩
 have s1 : W.heap.size = g + 1 := by rw [← hW,← hg];simp
 have HBW : Hid (Below w.heap.size w W) := Lib.hid (by rw [← hW];exact alloc_keep _ _)
 have GG : Hid (∀ w' : World,Below W.heap.size W w' → Glob w') := Lib.hid (fun w' h => (hG.below HBW.out).below h)
 have hcell : W.cell? ⟨g,0,none⟩ = some (.int .i64 kd) ∧ W.cell? ⟨g,1,none⟩ = some (.int .i64 l) ∧ W.cell? ⟨g,2,none⟩ = some (.int .i64 r) ∧ W.cell? ⟨g,3,none⟩ = some (.int .i64 n) ∧ W.cell? ⟨g,4,none⟩ = some (.string tx) ∧ W.cell? ⟨g,5,none⟩ = some (.string un) ∧ W.cell? ⟨g,6,none⟩ = some (.int .i64 po) := by rw [← hW,← hg];simp
 have hel0 : W.cell? (ad.add r.toNat) = some (.int .i64 ev) := (HBW.out.cell (World.block_lt_of_cell? _ _ hx0)).trans hx0
 have KS : Hid (∀ w' : World,Below W.heap.size W w' → (w'.cell? ⟨g,0,none⟩ = some (.int .i64 kd) ∧ w'.cell? ⟨g,1,none⟩ = some (.int .i64 l) ∧ w'.cell? ⟨g,2,none⟩ = some (.int .i64 r) ∧ w'.cell? ⟨g,3,none⟩ = some (.int .i64 n) ∧ w'.cell? ⟨g,4,none⟩ = some (.string tx) ∧ w'.cell? ⟨g,5,none⟩ = some (.string un) ∧ w'.cell? ⟨g,6,none⟩ = some (.int .i64 po) ∧ w'.cell? (ad.add r.toNat) = some (.int .i64 ev) ∧ Below W.heap.size W w')) := Lib.hid (fun w' h => by
  obtain ⟨p0,p1,p2,p3,p4,p5,p6⟩ := hcell
  have mv : ∀ (j : Nat) (u : Value),W.cell? ⟨g,j,none⟩ = some u → w'.cell? ⟨g,j,none⟩ = some u := fun j u hu => (h.cell (p := ⟨g,j,none⟩) (show g < W.heap.size by omega)).trans hu
  exact ⟨mv 0 _ p0,mv 1 _ p1,mv 2 _ p2,mv 3 _ p3,mv 4 _ p4,mv 5 _ p5,mv 6 _ p6,(h.cell (World.block_lt_of_cell? _ _ hel0)).trans hel0,h⟩)
 have HS := Lib.hid hW
 have KF : Hid (∀ w : World,Calls Tryd.prog 83 #[.agg #[.int .i64 kd,.int .i64 l,.int .i64 r,.int .i64 n,.string tx,.string un,.int .i64 po]] w fun e w' => e = .returned (.agg #[.int .i64 kd,.int .i64 n,.string tx,.string un]) ∧ Below w.heap.size w w') := Lib.hid (fun w => tfaced_at kd l r n po tx un w)
 have hBd : Below W.heap.size W W.drew := bl_drew (Below.refl _ _)
 clear hW hcell hG hel0 hx0
 have hw : IntKind.i64.wrap ((m : Int) - 1) = (m : Int) - 1 := by rw [IntKind.wrap_i64];omega
 have hw2 : IntKind.i64.wrap (ev - 1) = ev - 1 := by rw [IntKind.wrap_i64];omega
 have f0 : decide ((m : Int) < 2) = false := decide_eq_false (by omega)
 have f1 : ((r : Int) != (m : Int) - 1) = false := by rw [hr];simp
 have pr : (0 ≤ r) = True := eq_true (by omega)
 have qr : (r < (m : Int)) = True := eq_true (by omega)
 generalize h0 : ((l : Int) != ev - 1) = q0
 generalize h1 : decide (l < 0) = q1
 have hq : q0 = true ∨ q1 = true := by
  rw [← h0,← h1];rcases hno with h | h
  ·exact .inl (bne_iff_ne.mpr h)
  ·exact .inr (decide_eq_true h)
 clear hno hr h2 he hm
 have k1 : ((kd : Int) == 1) = false := by rw [beq_eq_false_iff_ne];omega
 have k2 : ((kd : Int) == 2) = false := by rw [beq_eq_false_iff_ne];omega
 have k7 : ((kd : Int) == 7) = false := by rw [beq_eq_false_iff_ne];omega
 have k8 : ((kd : Int) == 8) = false := by rw [beq_eq_false_iff_ne];omega
 rcases (show ((kd : Int) == 3) = true ∨ (((kd : Int) == 3) = false ∧ ((kd : Int) == 4) = true) ∨ (((kd : Int) == 3) = false ∧ ((kd : Int) == 4) = false ∧ ((kd : Int) == 5) = true) ∨ (((kd : Int) == 3) = false ∧ ((kd : Int) == 4) = false ∧ ((kd : Int) == 5) = false ∧ ((kd : Int) == 6) = true) from by rcases (show kd = 3 ∨ kd = 4 ∨ kd = 5 ∨ kd = 6 from by omega) with h | h | h | h <;> subst h <;> simp) with k3 | ⟨k3,k4⟩ | ⟨k3,k4,k5⟩ | ⟨k3,k4,k5,k6⟩
 all_goals
  clear hk
  rcases (show q0 = true ∨ (q0 = false ∧ q1 = true) from by revert hq;cases q0 <;> cases q1 <;> simp) with rfl | ⟨rfl,rfl⟩
 all_goals
  go_enter Tryd.func64,Tryd.ntmps64
  go_wp2_with fail
  rw [HS.out]
  obtain ⟨p0,p1,p2,p3,p4,p5,p6,p7,_⟩ := KS.out W (Below.refl _ _)
  go_wp2_with fail
  clear p0 p1 p2 p3 p4 p5 p6 p7
  skip
  refine start_ (n := 25) (S := fun w' => w'.cell? ⟨g,0,none⟩ = some (.int .i64 kd) ∧ w'.cell? ⟨g,1,none⟩ = some (.int .i64 l) ∧ w'.cell? ⟨g,2,none⟩ = some (.int .i64 r) ∧ w'.cell? ⟨g,3,none⟩ = some (.int .i64 n) ∧ w'.cell? ⟨g,4,none⟩ = some (.string tx) ∧ w'.cell? ⟨g,5,none⟩ = some (.string un) ∧ w'.cell? ⟨g,6,none⟩ = some (.int .i64 po) ∧ w'.cell? (ad.add r.toNat) = some (.int .i64 ev) ∧ Below W.heap.size W w') (ds := []) #[false,false,false,false,false,false,false,false,false,false,false,false,false,false,false,false,false,false,false,false,false,false,false,false,false] (by kernel_rfl) rfl rfl (KS.out _ hBd) (fun hHeld => ?_)
  refine with_tabW tbegin_tab20 tbegin_bits20 (fun HT_ HW_ => ?_)
  refine pure_ (i := 0) (N := (some 130)) (v := ?_) (a' := ?_) #[true,false,false,false,false,false,false,false,false,false,false,false,false,false,false,false,false,false,false,false,false,false,false,false,false] rfl rfl (any_of HT_.out (by kernel_rfl)) (fun _ _ _ h => h) (Or.inl ⟨by rfl,?_⟩) ?_ ?_
  rotate_left
  ·intro w'
   go_simp
   with_reducible rfl
  rotate_left
  ·simp only [Act.put,zYTrDa,zYTrDb,zYTrDc]
   rfl
  refine pure_ (i := 1) (N := (some 131)) (v := ?_) (a' := ?_) #[true,true,false,false,false,false,false,false,false,false,false,false,false,false,false,false,false,false,false,false,false,false,false,false,false] rfl rfl (any_of HT_.out (by kernel_rfl)) (fun _ _ _ h => h) (Or.inl ⟨by rfl,?_⟩) ?_ ?_
  rotate_left
  ·intro w'
   go_simp
   with_reducible rfl
  rotate_left
  ·simp only [Act.put,zYTrDa,zYTrDb,zYTrDc]
   rfl
  refine pure_ (i := 2) (N := (some 132)) (v := ?_) (a' := ?_) #[true,true,true,false,false,false,false,false,false,false,false,false,false,false,false,false,false,false,false,false,false,false,false,false,false] rfl rfl (any_of HT_.out (by kernel_rfl)) (fun _ _ _ h => h) (Or.inl ⟨by rfl,?_⟩) ?_ ?_
  rotate_left
  ·intro w'
   go_simp
   with_reducible rfl
  rotate_left
  ·simp only [Act.put,zYTrDa,zYTrDb,zYTrDc]
   rfl
  first
  |(refine pure_ (i := 3) (N := (some 133)) (v := ?_) (a' := ?_) #[true,true,true,true,false,false,false,false,false,false,false,false,false,false,false,false,false,false,false,false,false,false,false,false,false] rfl rfl (any_of HT_.out (by kernel_rfl)) (fun _ _ _ h => h) (Or.inl ⟨by rfl,?_⟩) ?_ ?_
    rotate_left
    ·intro w'
     go_simp
     with_reducible rfl
    rotate_left
    ·simp only [Act.put,zYTrDa,zYTrDb,zYTrDc]
     rfl)
  |(refine pure_ (i := 3) (N := (some 133)) (v := undef) (a' := ?_) #[true,true,true,true,false,false,false,false,false,false,false,false,false,false,false,false,false,false,false,false,false,false,false,false,false] rfl rfl (any_of HT_.out (by kernel_rfl)) (fun _ _ _ h => h) (Or.inr ⟨by rfl,rfl⟩) ?_ ?_
    rotate_left
    ·simp only [Act.put,zYTrDa,zYTrDb,zYTrDc]
     rfl)
  first
  |(refine pure_ (i := 5) (N := (some 135)) (v := ?_) (a' := ?_) #[true,true,true,true,false,true,false,false,false,false,false,false,false,false,false,false,false,false,false,false,false,false,false,false,false] rfl rfl (any_of HT_.out (by kernel_rfl)) (fun _ _ _ h => h) (Or.inl ⟨by rfl,?_⟩) ?_ ?_
    rotate_left
    ·intro w'
     go_simp
     with_reducible rfl
    rotate_left
    ·simp only [Act.put,zYTrDa,zYTrDb,zYTrDc]
     rfl)
  |(refine pure_ (i := 5) (N := (some 135)) (v := undef) (a' := ?_) #[true,true,true,true,false,true,false,false,false,false,false,false,false,false,false,false,false,false,false,false,false,false,false,false,false] rfl rfl (any_of HT_.out (by kernel_rfl)) (fun _ _ _ h => h) (Or.inr ⟨by rfl,rfl⟩) ?_ ?_
    rotate_left
    ·simp only [Act.put,zYTrDa,zYTrDb,zYTrDc]
     rfl)
  first
  |(refine pure_ (i := 6) (N := (some 136)) (v := ?_) (a' := ?_) #[true,true,true,true,false,true,true,false,false,false,false,false,false,false,false,false,false,false,false,false,false,false,false,false,false] rfl rfl (any_of HT_.out (by kernel_rfl)) (fun _ _ _ h => h) (Or.inl ⟨by rfl,?_⟩) ?_ ?_
    rotate_left
    ·intro w'
     go_simp
     with_reducible rfl
    rotate_left
    ·simp only [Act.put,zYTrDa,zYTrDb,zYTrDc]
     rfl)
  |(refine pure_ (i := 6) (N := (some 136)) (v := undef) (a' := ?_) #[true,true,true,true,false,true,true,false,false,false,false,false,false,false,false,false,false,false,false,false,false,false,false,false,false] rfl rfl (any_of HT_.out (by kernel_rfl)) (fun _ _ _ h => h) (Or.inr ⟨by rfl,rfl⟩) ?_ ?_
    rotate_left
    ·simp only [Act.put,zYTrDa,zYTrDb,zYTrDc]
     rfl)
  first
  |(refine take_ (i := 4) (N := (some 134)) (v := ?_) (a' := ?_) #[true,true,true,true,true,true,true,false,false,false,false,false,false,false,false,false,false,false,false,false,false,false,false,false,false] rfl rfl (take_ofW HT_.out HW_.out (by kernel_rfl)) (fun _ _ _ h => h) (Or.inl ⟨by rfl,?_⟩) hHeld ?_ ?_
    rotate_left
    ·rintro w' ⟨s0,s1,s2,s3,s4,s5,s6,s7,_⟩
     go_simp
     with_reducible rfl
    rotate_left
    ·simp only [Act.put,zYTrDa,zYTrDb,zYTrDc]
     rfl)
  |(refine pure_ (i := 4) (N := (some 134)) (v := undef) (a' := ?_) #[true,true,true,true,true,true,true,false,false,false,false,false,false,false,false,false,false,false,false,false,false,false,false,false,false] rfl rfl (any_of HT_.out (by kernel_rfl)) (fun _ _ _ h => h) (Or.inr ⟨by rfl,rfl⟩) ?_ ?_
    rotate_left
    ·simp only [Act.put,zYTrDa,zYTrDb,zYTrDc]
     rfl)
  first
  |(refine pure_ (i := 7) (N := (some 137)) (v := ?_) (a' := ?_) #[true,true,true,true,true,true,true,true,false,false,false,false,false,false,false,false,false,false,false,false,false,false,false,false,false] rfl rfl (any_of HT_.out (by kernel_rfl)) (fun _ _ _ h => h) (Or.inl ⟨by rfl,?_⟩) ?_ ?_
    rotate_left
    ·intro w'
     go_simp
     with_reducible rfl
    rotate_left
    ·simp only [Act.put,zYTrDa,zYTrDb,zYTrDc]
     rfl)
  |(refine pure_ (i := 7) (N := (some 137)) (v := undef) (a' := ?_) #[true,true,true,true,true,true,true,true,false,false,false,false,false,false,false,false,false,false,false,false,false,false,false,false,false] rfl rfl (any_of HT_.out (by kernel_rfl)) (fun _ _ _ h => h) (Or.inr ⟨by rfl,rfl⟩) ?_ ?_
    rotate_left
    ·simp only [Act.put,zYTrDa,zYTrDb,zYTrDc]
     rfl)
  refine pure_ (i := 8) (N := (some 138)) (v := ?_) (a' := ?_) #[true,true,true,true,true,true,true,true,true,false,false,false,false,false,false,false,false,false,false,false,false,false,false,false,false] rfl rfl (any_of HT_.out (by kernel_rfl)) (fun _ _ _ h => h) (Or.inl ⟨by rfl,?_⟩) ?_ ?_
  rotate_left
  ·intro w'
   go_simp
   with_reducible rfl
  rotate_left
  ·simp only [Act.put,zYTrDa,zYTrDb,zYTrDc]
   rfl
  refine pure_ (i := 9) (N := (some 139)) (v := ?_) (a' := ?_) #[true,true,true,true,true,true,true,true,true,true,false,false,false,false,false,false,false,false,false,false,false,false,false,false,false] rfl rfl (any_of HT_.out (by kernel_rfl)) (fun _ _ _ h => h) (Or.inl ⟨by rfl,?_⟩) ?_ ?_
  rotate_left
  ·intro w'
   go_simp
   with_reducible rfl
  rotate_left
  ·simp only [Act.put,zYTrDa,zYTrDb,zYTrDc]
   rfl
  first
  |(refine pure_ (i := 10) (N := (some 140)) (v := ?_) (a' := ?_) #[true,true,true,true,true,true,true,true,true,true,true,false,false,false,false,false,false,false,false,false,false,false,false,false,false] rfl rfl (any_of HT_.out (by kernel_rfl)) (fun _ _ _ h => h) (Or.inl ⟨by rfl,?_⟩) ?_ ?_
    rotate_left
    ·intro w'
     go_simp
     with_reducible rfl
    rotate_left
    ·simp only [Act.put,zYTrDa,zYTrDb,zYTrDc]
     rfl)
  |(refine pure_ (i := 10) (N := (some 140)) (v := undef) (a' := ?_) #[true,true,true,true,true,true,true,true,true,true,true,false,false,false,false,false,false,false,false,false,false,false,false,false,false] rfl rfl (any_of HT_.out (by kernel_rfl)) (fun _ _ _ h => h) (Or.inr ⟨by rfl,rfl⟩) ?_ ?_
    rotate_left
    ·simp only [Act.put,zYTrDa,zYTrDb,zYTrDc]
     rfl)
  first
  |(refine pure_ (i := 12) (N := (some 142)) (v := ?_) (a' := ?_) #[true,true,true,true,true,true,true,true,true,true,true,false,true,false,false,false,false,false,false,false,false,false,false,false,false] rfl rfl (any_of HT_.out (by kernel_rfl)) (fun _ _ _ h => h) (Or.inl ⟨by rfl,?_⟩) ?_ ?_
    rotate_left
    ·intro w'
     go_simp
     with_reducible rfl
    rotate_left
    ·simp only [Act.put,zYTrDa,zYTrDb,zYTrDc]
     rfl)
  |(refine pure_ (i := 12) (N := (some 142)) (v := undef) (a' := ?_) #[true,true,true,true,true,true,true,true,true,true,true,false,true,false,false,false,false,false,false,false,false,false,false,false,false] rfl rfl (any_of HT_.out (by kernel_rfl)) (fun _ _ _ h => h) (Or.inr ⟨by rfl,rfl⟩) ?_ ?_
    rotate_left
    ·simp only [Act.put,zYTrDa,zYTrDb,zYTrDc]
     rfl)
  first
  |(refine pure_ (i := 13) (N := (some 143)) (v := ?_) (a' := ?_) #[true,true,true,true,true,true,true,true,true,true,true,false,true,true,false,false,false,false,false,false,false,false,false,false,false] rfl rfl (any_of HT_.out (by kernel_rfl)) (fun _ _ _ h => h) (Or.inl ⟨by rfl,?_⟩) ?_ ?_
    rotate_left
    ·intro w'
     go_simp
     with_reducible rfl
    rotate_left
    ·simp only [Act.put,zYTrDa,zYTrDb,zYTrDc]
     rfl)
  |(refine pure_ (i := 13) (N := (some 143)) (v := undef) (a' := ?_) #[true,true,true,true,true,true,true,true,true,true,true,false,true,true,false,false,false,false,false,false,false,false,false,false,false] rfl rfl (any_of HT_.out (by kernel_rfl)) (fun _ _ _ h => h) (Or.inr ⟨by rfl,rfl⟩) ?_ ?_
    rotate_left
    ·simp only [Act.put,zYTrDa,zYTrDb,zYTrDc]
     rfl)
  first
  |(refine take_ (i := 11) (N := (some 141)) (v := ?_) (a' := ?_) #[true,true,true,true,true,true,true,true,true,true,true,true,true,true,false,false,false,false,false,false,false,false,false,false,false] rfl rfl (take_ofW HT_.out HW_.out (by kernel_rfl)) (fun _ _ _ h => h) (Or.inl ⟨by rfl,?_⟩) hHeld ?_ ?_
    rotate_left
    ·rintro w' ⟨s0,s1,s2,s3,s4,s5,s6,s7,_⟩
     go_simp
     with_reducible rfl
    rotate_left
    ·simp only [Act.put,zYTrDa,zYTrDb,zYTrDc]
     rfl)
  |(refine pure_ (i := 11) (N := (some 141)) (v := undef) (a' := ?_) #[true,true,true,true,true,true,true,true,true,true,true,true,true,true,false,false,false,false,false,false,false,false,false,false,false] rfl rfl (any_of HT_.out (by kernel_rfl)) (fun _ _ _ h => h) (Or.inr ⟨by rfl,rfl⟩) ?_ ?_
    rotate_left
    ·simp only [Act.put,zYTrDa,zYTrDb,zYTrDc]
     rfl)
  first
  |(refine take_ (i := 14) (N := (some 144)) (v := ?_) (a' := ?_) #[true,true,true,true,true,true,true,true,true,true,true,true,true,true,true,false,false,false,false,false,false,false,false,false,false] rfl rfl (take_ofW HT_.out HW_.out (by kernel_rfl)) (fun _ _ _ h => h) (Or.inl ⟨by rfl,?_⟩) hHeld ?_ ?_
    rotate_left
    ·rintro w' ⟨s0,s1,s2,s3,s4,s5,s6,s7,_⟩
     go_simp
     with_reducible rfl
    rotate_left
    ·simp only [Act.put,zYTrDa,zYTrDb,zYTrDc]
     rfl)
  |(refine pure_ (i := 14) (N := (some 144)) (v := undef) (a' := ?_) #[true,true,true,true,true,true,true,true,true,true,true,true,true,true,true,false,false,false,false,false,false,false,false,false,false] rfl rfl (any_of HT_.out (by kernel_rfl)) (fun _ _ _ h => h) (Or.inr ⟨by rfl,rfl⟩) ?_ ?_
    rotate_left
    ·simp only [Act.put,zYTrDa,zYTrDb,zYTrDc]
     rfl)
  first
  |(refine pure_ (i := 15) (N := (some 145)) (v := ?_) (a' := ?_) #[true,true,true,true,true,true,true,true,true,true,true,true,true,true,true,true,false,false,false,false,false,false,false,false,false] rfl rfl (any_of HT_.out (by kernel_rfl)) (fun _ _ _ h => h) (Or.inl ⟨by rfl,?_⟩) ?_ ?_
    rotate_left
    ·intro w'
     go_simp
     with_reducible rfl
    rotate_left
    ·simp only [Act.put,zYTrDa,zYTrDb,zYTrDc]
     rfl)
  |(refine pure_ (i := 15) (N := (some 145)) (v := undef) (a' := ?_) #[true,true,true,true,true,true,true,true,true,true,true,true,true,true,true,true,false,false,false,false,false,false,false,false,false] rfl rfl (any_of HT_.out (by kernel_rfl)) (fun _ _ _ h => h) (Or.inr ⟨by rfl,rfl⟩) ?_ ?_
    rotate_left
    ·simp only [Act.put,zYTrDa,zYTrDb,zYTrDc]
     rfl)
  first
  |(refine take_ (i := 16) (N := (some 146)) (v := ?_) (a' := ?_) #[true,true,true,true,true,true,true,true,true,true,true,true,true,true,true,true,true,false,false,false,false,false,false,false,false] rfl rfl (take_ofW HT_.out HW_.out (by kernel_rfl)) (fun _ _ _ h => h) (Or.inl ⟨by rfl,?_⟩) hHeld ?_ ?_
    rotate_left
    ·rintro w' ⟨s0,s1,s2,s3,s4,s5,s6,s7,_⟩
     go_simp
     with_reducible rfl
    rotate_left
    ·simp only [Act.put,zYTrDa,zYTrDb,zYTrDc]
     rfl)
  |(refine pure_ (i := 16) (N := (some 146)) (v := undef) (a' := ?_) #[true,true,true,true,true,true,true,true,true,true,true,true,true,true,true,true,true,false,false,false,false,false,false,false,false] rfl rfl (any_of HT_.out (by kernel_rfl)) (fun _ _ _ h => h) (Or.inr ⟨by rfl,rfl⟩) ?_ ?_
    rotate_left
    ·simp only [Act.put,zYTrDa,zYTrDb,zYTrDc]
     rfl)
  first
  |(refine pure_ (i := 17) (N := (some 147)) (v := ?_) (a' := ?_) #[true,true,true,true,true,true,true,true,true,true,true,true,true,true,true,true,true,true,false,false,false,false,false,false,false] rfl rfl (any_of HT_.out (by kernel_rfl)) (fun _ _ _ h => h) (Or.inl ⟨by rfl,?_⟩) ?_ ?_
    rotate_left
    ·intro w'
     go_simp
     with_reducible rfl
    rotate_left
    ·simp only [Act.put,zYTrDa,zYTrDb,zYTrDc]
     rfl)
  |(refine pure_ (i := 17) (N := (some 147)) (v := undef) (a' := ?_) #[true,true,true,true,true,true,true,true,true,true,true,true,true,true,true,true,true,true,false,false,false,false,false,false,false] rfl rfl (any_of HT_.out (by kernel_rfl)) (fun _ _ _ h => h) (Or.inr ⟨by rfl,rfl⟩) ?_ ?_
    rotate_left
    ·simp only [Act.put,zYTrDa,zYTrDb,zYTrDc]
     rfl)
  first
  |(refine pure_ (i := 18) (N := (some 148)) (v := ?_) (a' := ?_) #[true,true,true,true,true,true,true,true,true,true,true,true,true,true,true,true,true,true,true,false,false,false,false,false,false] rfl rfl (any_of HT_.out (by kernel_rfl)) (fun _ _ _ h => h) (Or.inl ⟨by rfl,?_⟩) ?_ ?_
    rotate_left
    ·intro w'
     go_simp
     with_reducible rfl
    rotate_left
    ·simp only [Act.put,zYTrDa,zYTrDb,zYTrDc]
     rfl)
  |(refine pure_ (i := 18) (N := (some 148)) (v := undef) (a' := ?_) #[true,true,true,true,true,true,true,true,true,true,true,true,true,true,true,true,true,true,true,false,false,false,false,false,false] rfl rfl (any_of HT_.out (by kernel_rfl)) (fun _ _ _ h => h) (Or.inr ⟨by rfl,rfl⟩) ?_ ?_
    rotate_left
    ·simp only [Act.put,zYTrDa,zYTrDb,zYTrDc]
     rfl)
  refine pure_ (i := 19) (N := (some 149)) (v := ?_) (a' := ?_) #[true,true,true,true,true,true,true,true,true,true,true,true,true,true,true,true,true,true,true,true,false,false,false,false,false] rfl rfl (any_of HT_.out (by kernel_rfl)) (fun _ _ _ h => h) (Or.inl ⟨by rfl,?_⟩) ?_ ?_
  rotate_left
  ·intro w'
   go_simp
   with_reducible rfl
  rotate_left
  ·simp only [Act.put,zYTrDa,zYTrDb,zYTrDc]
   rfl
  refine pure_ (i := 20) (N := (some 150)) (v := ?_) (a' := ?_) #[true,true,true,true,true,true,true,true,true,true,true,true,true,true,true,true,true,true,true,true,true,false,false,false,false] rfl rfl (any_of HT_.out (by kernel_rfl)) (fun _ _ _ h => h) (Or.inl ⟨by rfl,?_⟩) ?_ ?_
  rotate_left
  ·intro w'
   go_simp
   with_reducible rfl
  rotate_left
  ·simp only [Act.put,zYTrDa,zYTrDb,zYTrDc]
   rfl
  first
  |(refine pure_ (i := 21) (N := (some 151)) (v := ?_) (a' := ?_) #[true,true,true,true,true,true,true,true,true,true,true,true,true,true,true,true,true,true,true,true,true,true,false,false,false] rfl rfl (any_of HT_.out (by kernel_rfl)) (fun _ _ _ h => h) (Or.inl ⟨by rfl,?_⟩) ?_ ?_
    rotate_left
    ·intro w'
     go_simp
     with_reducible rfl
    rotate_left
    ·simp only [Act.put,zYTrDa,zYTrDb,zYTrDc]
     rfl)
  |(refine pure_ (i := 21) (N := (some 151)) (v := undef) (a' := ?_) #[true,true,true,true,true,true,true,true,true,true,true,true,true,true,true,true,true,true,true,true,true,true,false,false,false] rfl rfl (any_of HT_.out (by kernel_rfl)) (fun _ _ _ h => h) (Or.inr ⟨by rfl,rfl⟩) ?_ ?_
    rotate_left
    ·simp only [Act.put,zYTrDa,zYTrDb,zYTrDc]
     rfl)
  first
  |(refine take_ (i := 22) (N := (some 152)) (v := ?_) (a' := ?_) #[true,true,true,true,true,true,true,true,true,true,true,true,true,true,true,true,true,true,true,true,true,true,true,false,false] rfl rfl (take_ofW HT_.out HW_.out (by kernel_rfl)) (fun _ _ _ h => h) (Or.inl ⟨by rfl,?_⟩) hHeld ?_ ?_
    rotate_left
    ·rintro w' ⟨s0,s1,s2,s3,s4,s5,s6,s7,_⟩
     go_simp
     with_reducible rfl
    rotate_left
    ·simp only [Act.put,zYTrDa,zYTrDb,zYTrDc]
     rfl)
  |(refine pure_ (i := 22) (N := (some 152)) (v := undef) (a' := ?_) #[true,true,true,true,true,true,true,true,true,true,true,true,true,true,true,true,true,true,true,true,true,true,true,false,false] rfl rfl (any_of HT_.out (by kernel_rfl)) (fun _ _ _ h => h) (Or.inr ⟨by rfl,rfl⟩) ?_ ?_
    rotate_left
    ·simp only [Act.put,zYTrDa,zYTrDb,zYTrDc]
     rfl)
  first
  |(refine pure_ (i := 23) (N := (some 153)) (v := ?_) (a' := ?_) #[true,true,true,true,true,true,true,true,true,true,true,true,true,true,true,true,true,true,true,true,true,true,true,true,false] rfl rfl (any_of HT_.out (by kernel_rfl)) (fun _ _ _ h => h) (Or.inl ⟨by rfl,?_⟩) ?_ ?_
    rotate_left
    ·intro w'
     go_simp
     with_reducible rfl
    rotate_left
    ·simp only [Act.put,zYTrDa,zYTrDb,zYTrDc]
     rfl)
  |(refine pure_ (i := 23) (N := (some 153)) (v := undef) (a' := ?_) #[true,true,true,true,true,true,true,true,true,true,true,true,true,true,true,true,true,true,true,true,true,true,true,true,false] rfl rfl (any_of HT_.out (by kernel_rfl)) (fun _ _ _ h => h) (Or.inr ⟨by rfl,rfl⟩) ?_ ?_
    rotate_left
    ·simp only [Act.put,zYTrDa,zYTrDb,zYTrDc]
     rfl)
  refine pure_ (i := 24) (N := (some 154)) (v := ?_) (a' := ?_) #[true,true,true,true,true,true,true,true,true,true,true,true,true,true,true,true,true,true,true,true,true,true,true,true,true] rfl rfl (any_of HT_.out (by kernel_rfl)) (fun _ _ _ h => h) (Or.inl ⟨by rfl,?_⟩) ?_ ?_
  rotate_left
  ·intro w'
   go_simp
   with_reducible rfl
  rotate_left
  ·simp only [Act.put,zYTrDa,zYTrDb,zYTrDc]
   rfl
  refine done_ (done_of HT_.out (by kernel_rfl)) ?_
  have HB2 := Lib.hid (HBW.out.trans (hBd.mono HBW.out.size))
  go_wp2_with fail
  exact bodyPost_ret (v := .tuple #[.int .i64 0,.bool false]) (by simp [results,Tryd.results64,go_sem]) rfl ⟨rfl,by first | exact HB2.out | (rw [← hg];exact HB2.out)⟩
set_option maxRecDepth 20000 in
set_option maxHeartbeats 8000000 in
theorem tbegin_two (kd l r n po : Int) (tx un : ByteArray) (ad : Addr) (m c : Nat) (ev ev2 : Int) (w : World) (hk : 3 ≤ kd ∧ kd ≤ 6) (hm : (m : Int) < 4611686018427387904) (h2 : 2 ≤ (m : Int)) (hr : r = (m : Int) - 1) (hx0 : w.cell? (ad.add r.toNat) = some (.int .i64 ev)) (he : -4611686018427387904 ≤ ev ∧ ev ≤ 4611686018427387904) (hl : l = ev - 1) (hl0 : 0 ≤ l) (hlm : l < (m : Int)) (hx1 : w.cell? (ad.add l.toNat) = some (.int .i64 ev2)) (hG : Glob w) :
 Calls Tryd.prog 64 #[.agg #[.int .i64 kd,.int .i64 l,.int .i64 r,.int .i64 n,.string tx,.string un,.int .i64 po],.slice (some ad) m c] w fun e w' => e = .returned (.tuple #[.int .i64 ev2,.bool ((n == 0) && (tx.toList == [] && un.toList == []))]) ∧ Below w.heap.size w w' := by
 obtain ⟨g,hg⟩ : ∃ g,w.heap.size = g := ⟨_,rfl⟩
 obtain ⟨W,hW⟩ : ∃ W,w.alloc (.cells #[.int .i64 kd,.int .i64 l,.int .i64 r,.int .i64 n,.string tx,.string un,.int .i64 po] 52) = W := ⟨_,rfl⟩
 have s1 : W.heap.size = g + 1 := by rw [← hW,← hg];simp
 have HBW : Hid (Below w.heap.size w W) := Lib.hid (by rw [← hW];exact alloc_keep _ _)
 have GG : Hid (∀ w' : World,Below W.heap.size W w' → Glob w') := Lib.hid (fun w' h => (hG.below HBW.out).below h)
 have hcell : W.cell? ⟨g,0,none⟩ = some (.int .i64 kd) ∧ W.cell? ⟨g,1,none⟩ = some (.int .i64 l) ∧ W.cell? ⟨g,2,none⟩ = some (.int .i64 r) ∧ W.cell? ⟨g,3,none⟩ = some (.int .i64 n) ∧ W.cell? ⟨g,4,none⟩ = some (.string tx) ∧ W.cell? ⟨g,5,none⟩ = some (.string un) ∧ W.cell? ⟨g,6,none⟩ = some (.int .i64 po) := by rw [← hW,← hg];simp
 have hel0 : W.cell? (ad.add r.toNat) = some (.int .i64 ev) := (HBW.out.cell (World.block_lt_of_cell? _ _ hx0)).trans hx0
 have hel1 : W.cell? (ad.add l.toNat) = some (.int .i64 ev2) := (HBW.out.cell (World.block_lt_of_cell? _ _ hx1)).trans hx1
 have KS : Hid (∀ w' : World,Below W.heap.size W w' → (w'.cell? ⟨g,0,none⟩ = some (.int .i64 kd) ∧ w'.cell? ⟨g,1,none⟩ = some (.int .i64 l) ∧ w'.cell? ⟨g,2,none⟩ = some (.int .i64 r) ∧ w'.cell? ⟨g,3,none⟩ = some (.int .i64 n) ∧ w'.cell? ⟨g,4,none⟩ = some (.string tx) ∧ w'.cell? ⟨g,5,none⟩ = some (.string un) ∧ w'.cell? ⟨g,6,none⟩ = some (.int .i64 po) ∧ w'.cell? (ad.add r.toNat) = some (.int .i64 ev) ∧ w'.cell? (ad.add l.toNat) = some (.int .i64 ev2) ∧ Below W.heap.size W w')) := Lib.hid (fun w' h => by
  obtain ⟨p0,p1,p2,p3,p4,p5,p6⟩ := hcell
  have mv : ∀ (j : Nat) (u : Value),W.cell? ⟨g,j,none⟩ = some u → w'.cell? ⟨g,j,none⟩ = some u := fun j u hu => (h.cell (p := ⟨g,j,none⟩) (show g < W.heap.size by omega)).trans hu
  exact ⟨mv 0 _ p0,mv 1 _ p1,mv 2 _ p2,mv 3 _ p3,mv 4 _ p4,mv 5 _ p5,mv 6 _ p6,(h.cell (World.block_lt_of_cell? _ _ hel0)).trans hel0,(h.cell (World.block_lt_of_cell? _ _ hel1)).trans hel1,h⟩)
 have HS := Lib.hid hW
 have KF : Hid (∀ w : World,Calls Tryd.prog 83 #[.agg #[.int .i64 kd,.int .i64 l,.int .i64 r,.int .i64 n,.string tx,.string un,.int .i64 po]] w fun e w' => e = .returned (.agg #[.int .i64 kd,.int .i64 n,.string tx,.string un]) ∧ Below w.heap.size w w') := Lib.hid (fun w => tfaced_at kd l r n po tx un w)
 have hBd : Below W.heap.size W W.drew := bl_drew (Below.refl _ _)
 clear hW hcell hG hel0 hx0 hel1 hx1
 have hw : IntKind.i64.wrap ((m : Int) - 1) = (m : Int) - 1 := by rw [IntKind.wrap_i64];omega
 have hw2 : IntKind.i64.wrap (ev - 1) = ev - 1 := by rw [IntKind.wrap_i64];omega
 have f0 : decide ((m : Int) < 2) = false := decide_eq_false (by omega)
 have f1 : ((r : Int) != (m : Int) - 1) = false := by rw [hr];simp
 have pr : (0 ≤ r) = True := eq_true (by omega)
 have qr : (r < (m : Int)) = True := eq_true (by omega)
 have f2 : ((l : Int) != ev - 1) = false := by rw [hl];simp
 have f3 : decide (l < 0) = false := decide_eq_false (by omega)
 have pl : (0 ≤ l) = True := eq_true hl0
 have ql : (l < (m : Int)) = True := eq_true hlm
 generalize h0 : ((n : Int) == 0 && (tx.toList == [] && un.toList == [])) = q0
 have hE : ∀ (d : Nat) (w : World),(Op.equalIn (d + 2) 109 (.agg #[.int .i64 kd,.int .i64 n,.string tx,.string un]) (.agg #[.int .i64 kd,.int .i64 0,.string ⟨#[]⟩,.string ⟨#[]⟩])).run Tryd.prog w = .ok q0 w := fun d w => by
  rw [eqFace,← h0,show (⟨#[]⟩ : ByteArray).toList = [] from by rw [Lib.toList_data]];simp
 clear h0 hl hl0 hlm hr h2 he hm
 have k1 : ((kd : Int) == 1) = false := by rw [beq_eq_false_iff_ne];omega
 have k2 : ((kd : Int) == 2) = false := by rw [beq_eq_false_iff_ne];omega
 have k7 : ((kd : Int) == 7) = false := by rw [beq_eq_false_iff_ne];omega
 have k8 : ((kd : Int) == 8) = false := by rw [beq_eq_false_iff_ne];omega
 rcases (show ((kd : Int) == 3) = true ∨ (((kd : Int) == 3) = false ∧ ((kd : Int) == 4) = true) ∨ (((kd : Int) == 3) = false ∧ ((kd : Int) == 4) = false ∧ ((kd : Int) == 5) = true) ∨ (((kd : Int) == 3) = false ∧ ((kd : Int) == 4) = false ∧ ((kd : Int) == 5) = false ∧ ((kd : Int) == 6) = true) from by rcases (show kd = 3 ∨ kd = 4 ∨ kd = 5 ∨ kd = 6 from by omega) with h | h | h | h <;> subst h <;> simp) with k3 | ⟨k3,k4⟩ | ⟨k3,k4,k5⟩ | ⟨k3,k4,k5,k6⟩
 all_goals
  clear hk
  go_enter Tryd.func64,Tryd.ntmps64
  go_wp2_with fail
  rw [HS.out]
  obtain ⟨p0,p1,p2,p3,p4,p5,p6,p7,p8,_⟩ := KS.out W (Below.refl _ _)
  go_wp2_with fail
  clear p0 p1 p2 p3 p4 p5 p6 p7 p8
  skip
  refine start_ (n := 25) (S := fun w' => w'.cell? ⟨g,0,none⟩ = some (.int .i64 kd) ∧ w'.cell? ⟨g,1,none⟩ = some (.int .i64 l) ∧ w'.cell? ⟨g,2,none⟩ = some (.int .i64 r) ∧ w'.cell? ⟨g,3,none⟩ = some (.int .i64 n) ∧ w'.cell? ⟨g,4,none⟩ = some (.string tx) ∧ w'.cell? ⟨g,5,none⟩ = some (.string un) ∧ w'.cell? ⟨g,6,none⟩ = some (.int .i64 po) ∧ w'.cell? (ad.add r.toNat) = some (.int .i64 ev) ∧ w'.cell? (ad.add l.toNat) = some (.int .i64 ev2) ∧ Below W.heap.size W w') (ds := []) #[false,false,false,false,false,false,false,false,false,false,false,false,false,false,false,false,false,false,false,false,false,false,false,false,false] (by kernel_rfl) rfl rfl (KS.out _ hBd) (fun hHeld => ?_)
  refine with_tabW tbegin_tab20 tbegin_bits20 (fun HT_ HW_ => ?_)
  refine pure_ (i := 0) (N := (some 130)) (v := ?_) (a' := ?_) #[true,false,false,false,false,false,false,false,false,false,false,false,false,false,false,false,false,false,false,false,false,false,false,false,false] rfl rfl (any_of HT_.out (by kernel_rfl)) (fun _ _ _ h => h) (Or.inl ⟨by rfl,?_⟩) ?_ ?_
  rotate_left
  ·intro w'
   go_simp
   with_reducible rfl
  rotate_left
  ·simp only [Act.put,zYTrDa,zYTrDb,zYTrDc]
   rfl
  refine pure_ (i := 1) (N := (some 131)) (v := ?_) (a' := ?_) #[true,true,false,false,false,false,false,false,false,false,false,false,false,false,false,false,false,false,false,false,false,false,false,false,false] rfl rfl (any_of HT_.out (by kernel_rfl)) (fun _ _ _ h => h) (Or.inl ⟨by rfl,?_⟩) ?_ ?_
  rotate_left
  ·intro w'
   go_simp
   with_reducible rfl
  rotate_left
  ·simp only [Act.put,zYTrDa,zYTrDb,zYTrDc]
   rfl
  refine pure_ (i := 2) (N := (some 132)) (v := ?_) (a' := ?_) #[true,true,true,false,false,false,false,false,false,false,false,false,false,false,false,false,false,false,false,false,false,false,false,false,false] rfl rfl (any_of HT_.out (by kernel_rfl)) (fun _ _ _ h => h) (Or.inl ⟨by rfl,?_⟩) ?_ ?_
  rotate_left
  ·intro w'
   go_simp
   with_reducible rfl
  rotate_left
  ·simp only [Act.put,zYTrDa,zYTrDb,zYTrDc]
   rfl
  first
  |(refine pure_ (i := 3) (N := (some 133)) (v := ?_) (a' := ?_) #[true,true,true,true,false,false,false,false,false,false,false,false,false,false,false,false,false,false,false,false,false,false,false,false,false] rfl rfl (any_of HT_.out (by kernel_rfl)) (fun _ _ _ h => h) (Or.inl ⟨by rfl,?_⟩) ?_ ?_
    rotate_left
    ·intro w'
     go_simp
     with_reducible rfl
    rotate_left
    ·simp only [Act.put,zYTrDa,zYTrDb,zYTrDc]
     rfl)
  |(refine pure_ (i := 3) (N := (some 133)) (v := undef) (a' := ?_) #[true,true,true,true,false,false,false,false,false,false,false,false,false,false,false,false,false,false,false,false,false,false,false,false,false] rfl rfl (any_of HT_.out (by kernel_rfl)) (fun _ _ _ h => h) (Or.inr ⟨by rfl,rfl⟩) ?_ ?_
    rotate_left
    ·simp only [Act.put,zYTrDa,zYTrDb,zYTrDc]
     rfl)
  first
  |(refine pure_ (i := 5) (N := (some 135)) (v := ?_) (a' := ?_) #[true,true,true,true,false,true,false,false,false,false,false,false,false,false,false,false,false,false,false,false,false,false,false,false,false] rfl rfl (any_of HT_.out (by kernel_rfl)) (fun _ _ _ h => h) (Or.inl ⟨by rfl,?_⟩) ?_ ?_
    rotate_left
    ·intro w'
     go_simp
     with_reducible rfl
    rotate_left
    ·simp only [Act.put,zYTrDa,zYTrDb,zYTrDc]
     rfl)
  |(refine pure_ (i := 5) (N := (some 135)) (v := undef) (a' := ?_) #[true,true,true,true,false,true,false,false,false,false,false,false,false,false,false,false,false,false,false,false,false,false,false,false,false] rfl rfl (any_of HT_.out (by kernel_rfl)) (fun _ _ _ h => h) (Or.inr ⟨by rfl,rfl⟩) ?_ ?_
    rotate_left
    ·simp only [Act.put,zYTrDa,zYTrDb,zYTrDc]
     rfl)
  first
  |(refine pure_ (i := 6) (N := (some 136)) (v := ?_) (a' := ?_) #[true,true,true,true,false,true,true,false,false,false,false,false,false,false,false,false,false,false,false,false,false,false,false,false,false] rfl rfl (any_of HT_.out (by kernel_rfl)) (fun _ _ _ h => h) (Or.inl ⟨by rfl,?_⟩) ?_ ?_
    rotate_left
    ·intro w'
     go_simp
     with_reducible rfl
    rotate_left
    ·simp only [Act.put,zYTrDa,zYTrDb,zYTrDc]
     rfl)
  |(refine pure_ (i := 6) (N := (some 136)) (v := undef) (a' := ?_) #[true,true,true,true,false,true,true,false,false,false,false,false,false,false,false,false,false,false,false,false,false,false,false,false,false] rfl rfl (any_of HT_.out (by kernel_rfl)) (fun _ _ _ h => h) (Or.inr ⟨by rfl,rfl⟩) ?_ ?_
    rotate_left
    ·simp only [Act.put,zYTrDa,zYTrDb,zYTrDc]
     rfl)
  first
  |(refine take_ (i := 4) (N := (some 134)) (v := ?_) (a' := ?_) #[true,true,true,true,true,true,true,false,false,false,false,false,false,false,false,false,false,false,false,false,false,false,false,false,false] rfl rfl (take_ofW HT_.out HW_.out (by kernel_rfl)) (fun _ _ _ h => h) (Or.inl ⟨by rfl,?_⟩) hHeld ?_ ?_
    rotate_left
    ·rintro w' ⟨s0,s1,s2,s3,s4,s5,s6,s7,s8,_⟩
     go_simp
     with_reducible rfl
    rotate_left
    ·simp only [Act.put,zYTrDa,zYTrDb,zYTrDc]
     rfl)
  |(refine pure_ (i := 4) (N := (some 134)) (v := undef) (a' := ?_) #[true,true,true,true,true,true,true,false,false,false,false,false,false,false,false,false,false,false,false,false,false,false,false,false,false] rfl rfl (any_of HT_.out (by kernel_rfl)) (fun _ _ _ h => h) (Or.inr ⟨by rfl,rfl⟩) ?_ ?_
    rotate_left
    ·simp only [Act.put,zYTrDa,zYTrDb,zYTrDc]
     rfl)
  first
  |(refine pure_ (i := 7) (N := (some 137)) (v := ?_) (a' := ?_) #[true,true,true,true,true,true,true,true,false,false,false,false,false,false,false,false,false,false,false,false,false,false,false,false,false] rfl rfl (any_of HT_.out (by kernel_rfl)) (fun _ _ _ h => h) (Or.inl ⟨by rfl,?_⟩) ?_ ?_
    rotate_left
    ·intro w'
     go_simp
     with_reducible rfl
    rotate_left
    ·simp only [Act.put,zYTrDa,zYTrDb,zYTrDc]
     rfl)
  |(refine pure_ (i := 7) (N := (some 137)) (v := undef) (a' := ?_) #[true,true,true,true,true,true,true,true,false,false,false,false,false,false,false,false,false,false,false,false,false,false,false,false,false] rfl rfl (any_of HT_.out (by kernel_rfl)) (fun _ _ _ h => h) (Or.inr ⟨by rfl,rfl⟩) ?_ ?_
    rotate_left
    ·simp only [Act.put,zYTrDa,zYTrDb,zYTrDc]
     rfl)
  refine pure_ (i := 8) (N := (some 138)) (v := ?_) (a' := ?_) #[true,true,true,true,true,true,true,true,true,false,false,false,false,false,false,false,false,false,false,false,false,false,false,false,false] rfl rfl (any_of HT_.out (by kernel_rfl)) (fun _ _ _ h => h) (Or.inl ⟨by rfl,?_⟩) ?_ ?_
  rotate_left
  ·intro w'
   go_simp
   with_reducible rfl
  rotate_left
  ·simp only [Act.put,zYTrDa,zYTrDb,zYTrDc]
   rfl
  refine pure_ (i := 9) (N := (some 139)) (v := ?_) (a' := ?_) #[true,true,true,true,true,true,true,true,true,true,false,false,false,false,false,false,false,false,false,false,false,false,false,false,false] rfl rfl (any_of HT_.out (by kernel_rfl)) (fun _ _ _ h => h) (Or.inl ⟨by rfl,?_⟩) ?_ ?_
  rotate_left
  ·intro w'
   go_simp
   with_reducible rfl
  rotate_left
  ·simp only [Act.put,zYTrDa,zYTrDb,zYTrDc]
   rfl
  first
  |(refine pure_ (i := 10) (N := (some 140)) (v := ?_) (a' := ?_) #[true,true,true,true,true,true,true,true,true,true,true,false,false,false,false,false,false,false,false,false,false,false,false,false,false] rfl rfl (any_of HT_.out (by kernel_rfl)) (fun _ _ _ h => h) (Or.inl ⟨by rfl,?_⟩) ?_ ?_
    rotate_left
    ·intro w'
     go_simp
     with_reducible rfl
    rotate_left
    ·simp only [Act.put,zYTrDa,zYTrDb,zYTrDc]
     rfl)
  |(refine pure_ (i := 10) (N := (some 140)) (v := undef) (a' := ?_) #[true,true,true,true,true,true,true,true,true,true,true,false,false,false,false,false,false,false,false,false,false,false,false,false,false] rfl rfl (any_of HT_.out (by kernel_rfl)) (fun _ _ _ h => h) (Or.inr ⟨by rfl,rfl⟩) ?_ ?_
    rotate_left
    ·simp only [Act.put,zYTrDa,zYTrDb,zYTrDc]
     rfl)
  first
  |(refine pure_ (i := 12) (N := (some 142)) (v := ?_) (a' := ?_) #[true,true,true,true,true,true,true,true,true,true,true,false,true,false,false,false,false,false,false,false,false,false,false,false,false] rfl rfl (any_of HT_.out (by kernel_rfl)) (fun _ _ _ h => h) (Or.inl ⟨by rfl,?_⟩) ?_ ?_
    rotate_left
    ·intro w'
     go_simp
     with_reducible rfl
    rotate_left
    ·simp only [Act.put,zYTrDa,zYTrDb,zYTrDc]
     rfl)
  |(refine pure_ (i := 12) (N := (some 142)) (v := undef) (a' := ?_) #[true,true,true,true,true,true,true,true,true,true,true,false,true,false,false,false,false,false,false,false,false,false,false,false,false] rfl rfl (any_of HT_.out (by kernel_rfl)) (fun _ _ _ h => h) (Or.inr ⟨by rfl,rfl⟩) ?_ ?_
    rotate_left
    ·simp only [Act.put,zYTrDa,zYTrDb,zYTrDc]
     rfl)
  first
  |(refine pure_ (i := 13) (N := (some 143)) (v := ?_) (a' := ?_) #[true,true,true,true,true,true,true,true,true,true,true,false,true,true,false,false,false,false,false,false,false,false,false,false,false] rfl rfl (any_of HT_.out (by kernel_rfl)) (fun _ _ _ h => h) (Or.inl ⟨by rfl,?_⟩) ?_ ?_
    rotate_left
    ·intro w'
     go_simp
     with_reducible rfl
    rotate_left
    ·simp only [Act.put,zYTrDa,zYTrDb,zYTrDc]
     rfl)
  |(refine pure_ (i := 13) (N := (some 143)) (v := undef) (a' := ?_) #[true,true,true,true,true,true,true,true,true,true,true,false,true,true,false,false,false,false,false,false,false,false,false,false,false] rfl rfl (any_of HT_.out (by kernel_rfl)) (fun _ _ _ h => h) (Or.inr ⟨by rfl,rfl⟩) ?_ ?_
    rotate_left
    ·simp only [Act.put,zYTrDa,zYTrDb,zYTrDc]
     rfl)
  first
  |(refine take_ (i := 11) (N := (some 141)) (v := ?_) (a' := ?_) #[true,true,true,true,true,true,true,true,true,true,true,true,true,true,false,false,false,false,false,false,false,false,false,false,false] rfl rfl (take_ofW HT_.out HW_.out (by kernel_rfl)) (fun _ _ _ h => h) (Or.inl ⟨by rfl,?_⟩) hHeld ?_ ?_
    rotate_left
    ·rintro w' ⟨s0,s1,s2,s3,s4,s5,s6,s7,s8,_⟩
     go_simp
     with_reducible rfl
    rotate_left
    ·simp only [Act.put,zYTrDa,zYTrDb,zYTrDc]
     rfl)
  |(refine pure_ (i := 11) (N := (some 141)) (v := undef) (a' := ?_) #[true,true,true,true,true,true,true,true,true,true,true,true,true,true,false,false,false,false,false,false,false,false,false,false,false] rfl rfl (any_of HT_.out (by kernel_rfl)) (fun _ _ _ h => h) (Or.inr ⟨by rfl,rfl⟩) ?_ ?_
    rotate_left
    ·simp only [Act.put,zYTrDa,zYTrDb,zYTrDc]
     rfl)
  first
  |(refine take_ (i := 14) (N := (some 144)) (v := ?_) (a' := ?_) #[true,true,true,true,true,true,true,true,true,true,true,true,true,true,true,false,false,false,false,false,false,false,false,false,false] rfl rfl (take_ofW HT_.out HW_.out (by kernel_rfl)) (fun _ _ _ h => h) (Or.inl ⟨by rfl,?_⟩) hHeld ?_ ?_
    rotate_left
    ·rintro w' ⟨s0,s1,s2,s3,s4,s5,s6,s7,s8,_⟩
     go_simp
     with_reducible rfl
    rotate_left
    ·simp only [Act.put,zYTrDa,zYTrDb,zYTrDc]
     rfl)
  |(refine pure_ (i := 14) (N := (some 144)) (v := undef) (a' := ?_) #[true,true,true,true,true,true,true,true,true,true,true,true,true,true,true,false,false,false,false,false,false,false,false,false,false] rfl rfl (any_of HT_.out (by kernel_rfl)) (fun _ _ _ h => h) (Or.inr ⟨by rfl,rfl⟩) ?_ ?_
    rotate_left
    ·simp only [Act.put,zYTrDa,zYTrDb,zYTrDc]
     rfl)
  first
  |(refine pure_ (i := 15) (N := (some 145)) (v := ?_) (a' := ?_) #[true,true,true,true,true,true,true,true,true,true,true,true,true,true,true,true,false,false,false,false,false,false,false,false,false] rfl rfl (any_of HT_.out (by kernel_rfl)) (fun _ _ _ h => h) (Or.inl ⟨by rfl,?_⟩) ?_ ?_
    rotate_left
    ·intro w'
     go_simp
     with_reducible rfl
    rotate_left
    ·simp only [Act.put,zYTrDa,zYTrDb,zYTrDc]
     rfl)
  |(refine pure_ (i := 15) (N := (some 145)) (v := undef) (a' := ?_) #[true,true,true,true,true,true,true,true,true,true,true,true,true,true,true,true,false,false,false,false,false,false,false,false,false] rfl rfl (any_of HT_.out (by kernel_rfl)) (fun _ _ _ h => h) (Or.inr ⟨by rfl,rfl⟩) ?_ ?_
    rotate_left
    ·simp only [Act.put,zYTrDa,zYTrDb,zYTrDc]
     rfl)
  first
  |(refine take_ (i := 16) (N := (some 146)) (v := ?_) (a' := ?_) #[true,true,true,true,true,true,true,true,true,true,true,true,true,true,true,true,true,false,false,false,false,false,false,false,false] rfl rfl (take_ofW HT_.out HW_.out (by kernel_rfl)) (fun _ _ _ h => h) (Or.inl ⟨by rfl,?_⟩) hHeld ?_ ?_
    rotate_left
    ·rintro w' ⟨s0,s1,s2,s3,s4,s5,s6,s7,s8,_⟩
     go_simp
     with_reducible rfl
    rotate_left
    ·simp only [Act.put,zYTrDa,zYTrDb,zYTrDc]
     rfl)
  |(refine pure_ (i := 16) (N := (some 146)) (v := undef) (a' := ?_) #[true,true,true,true,true,true,true,true,true,true,true,true,true,true,true,true,true,false,false,false,false,false,false,false,false] rfl rfl (any_of HT_.out (by kernel_rfl)) (fun _ _ _ h => h) (Or.inr ⟨by rfl,rfl⟩) ?_ ?_
    rotate_left
    ·simp only [Act.put,zYTrDa,zYTrDb,zYTrDc]
     rfl)
  first
  |(refine pure_ (i := 17) (N := (some 147)) (v := ?_) (a' := ?_) #[true,true,true,true,true,true,true,true,true,true,true,true,true,true,true,true,true,true,false,false,false,false,false,false,false] rfl rfl (any_of HT_.out (by kernel_rfl)) (fun _ _ _ h => h) (Or.inl ⟨by rfl,?_⟩) ?_ ?_
    rotate_left
    ·intro w'
     go_simp
     with_reducible rfl
    rotate_left
    ·simp only [Act.put,zYTrDa,zYTrDb,zYTrDc]
     rfl)
  |(refine pure_ (i := 17) (N := (some 147)) (v := undef) (a' := ?_) #[true,true,true,true,true,true,true,true,true,true,true,true,true,true,true,true,true,true,false,false,false,false,false,false,false] rfl rfl (any_of HT_.out (by kernel_rfl)) (fun _ _ _ h => h) (Or.inr ⟨by rfl,rfl⟩) ?_ ?_
    rotate_left
    ·simp only [Act.put,zYTrDa,zYTrDb,zYTrDc]
     rfl)
  first
  |(refine pure_ (i := 18) (N := (some 148)) (v := ?_) (a' := ?_) #[true,true,true,true,true,true,true,true,true,true,true,true,true,true,true,true,true,true,true,false,false,false,false,false,false] rfl rfl (any_of HT_.out (by kernel_rfl)) (fun _ _ _ h => h) (Or.inl ⟨by rfl,?_⟩) ?_ ?_
    rotate_left
    ·intro w'
     go_simp
     with_reducible rfl
    rotate_left
    ·simp only [Act.put,zYTrDa,zYTrDb,zYTrDc]
     rfl)
  |(refine pure_ (i := 18) (N := (some 148)) (v := undef) (a' := ?_) #[true,true,true,true,true,true,true,true,true,true,true,true,true,true,true,true,true,true,true,false,false,false,false,false,false] rfl rfl (any_of HT_.out (by kernel_rfl)) (fun _ _ _ h => h) (Or.inr ⟨by rfl,rfl⟩) ?_ ?_
    rotate_left
    ·simp only [Act.put,zYTrDa,zYTrDb,zYTrDc]
     rfl)
  refine pure_ (i := 19) (N := (some 149)) (v := ?_) (a' := ?_) #[true,true,true,true,true,true,true,true,true,true,true,true,true,true,true,true,true,true,true,true,false,false,false,false,false] rfl rfl (any_of HT_.out (by kernel_rfl)) (fun _ _ _ h => h) (Or.inl ⟨by rfl,?_⟩) ?_ ?_
  rotate_left
  ·intro w'
   go_simp
   with_reducible rfl
  rotate_left
  ·simp only [Act.put,zYTrDa,zYTrDb,zYTrDc]
   rfl
  refine pure_ (i := 20) (N := (some 150)) (v := ?_) (a' := ?_) #[true,true,true,true,true,true,true,true,true,true,true,true,true,true,true,true,true,true,true,true,true,false,false,false,false] rfl rfl (any_of HT_.out (by kernel_rfl)) (fun _ _ _ h => h) (Or.inl ⟨by rfl,?_⟩) ?_ ?_
  rotate_left
  ·intro w'
   go_simp
   with_reducible rfl
  rotate_left
  ·simp only [Act.put,zYTrDa,zYTrDb,zYTrDc]
   rfl
  first
  |(refine pure_ (i := 21) (N := (some 151)) (v := ?_) (a' := ?_) #[true,true,true,true,true,true,true,true,true,true,true,true,true,true,true,true,true,true,true,true,true,true,false,false,false] rfl rfl (any_of HT_.out (by kernel_rfl)) (fun _ _ _ h => h) (Or.inl ⟨by rfl,?_⟩) ?_ ?_
    rotate_left
    ·intro w'
     go_simp
     with_reducible rfl
    rotate_left
    ·simp only [Act.put,zYTrDa,zYTrDb,zYTrDc]
     rfl)
  |(refine pure_ (i := 21) (N := (some 151)) (v := undef) (a' := ?_) #[true,true,true,true,true,true,true,true,true,true,true,true,true,true,true,true,true,true,true,true,true,true,false,false,false] rfl rfl (any_of HT_.out (by kernel_rfl)) (fun _ _ _ h => h) (Or.inr ⟨by rfl,rfl⟩) ?_ ?_
    rotate_left
    ·simp only [Act.put,zYTrDa,zYTrDb,zYTrDc]
     rfl)
  first
  |(refine take_ (i := 22) (N := (some 152)) (v := ?_) (a' := ?_) #[true,true,true,true,true,true,true,true,true,true,true,true,true,true,true,true,true,true,true,true,true,true,true,false,false] rfl rfl (take_ofW HT_.out HW_.out (by kernel_rfl)) (fun _ _ _ h => h) (Or.inl ⟨by rfl,?_⟩) hHeld ?_ ?_
    rotate_left
    ·rintro w' ⟨s0,s1,s2,s3,s4,s5,s6,s7,s8,_⟩
     go_simp
     with_reducible rfl
    rotate_left
    ·simp only [Act.put,zYTrDa,zYTrDb,zYTrDc]
     rfl)
  |(refine pure_ (i := 22) (N := (some 152)) (v := undef) (a' := ?_) #[true,true,true,true,true,true,true,true,true,true,true,true,true,true,true,true,true,true,true,true,true,true,true,false,false] rfl rfl (any_of HT_.out (by kernel_rfl)) (fun _ _ _ h => h) (Or.inr ⟨by rfl,rfl⟩) ?_ ?_
    rotate_left
    ·simp only [Act.put,zYTrDa,zYTrDb,zYTrDc]
     rfl)
  first
  |(refine pure_ (i := 23) (N := (some 153)) (v := ?_) (a' := ?_) #[true,true,true,true,true,true,true,true,true,true,true,true,true,true,true,true,true,true,true,true,true,true,true,true,false] rfl rfl (any_of HT_.out (by kernel_rfl)) (fun _ _ _ h => h) (Or.inl ⟨by rfl,?_⟩) ?_ ?_
    rotate_left
    ·intro w'
     go_simp
     with_reducible rfl
    rotate_left
    ·simp only [Act.put,zYTrDa,zYTrDb,zYTrDc]
     rfl)
  |(refine pure_ (i := 23) (N := (some 153)) (v := undef) (a' := ?_) #[true,true,true,true,true,true,true,true,true,true,true,true,true,true,true,true,true,true,true,true,true,true,true,true,false] rfl rfl (any_of HT_.out (by kernel_rfl)) (fun _ _ _ h => h) (Or.inr ⟨by rfl,rfl⟩) ?_ ?_
    rotate_left
    ·simp only [Act.put,zYTrDa,zYTrDb,zYTrDc]
     rfl)
  refine pure_ (i := 24) (N := (some 154)) (v := ?_) (a' := ?_) #[true,true,true,true,true,true,true,true,true,true,true,true,true,true,true,true,true,true,true,true,true,true,true,true,true] rfl rfl (any_of HT_.out (by kernel_rfl)) (fun _ _ _ h => h) (Or.inl ⟨by rfl,?_⟩) ?_ ?_
  rotate_left
  ·intro w'
   go_simp
   with_reducible rfl
  rotate_left
  ·simp only [Act.put,zYTrDa,zYTrDb,zYTrDc]
   rfl
  refine done_ (done_of HT_.out (by kernel_rfl)) ?_
  go_wp2_with fail
  have hBe : Below W.heap.size W W.drew.drew := bl_drew hBd
  refine start_ (n := 13) (S := fun w' => w'.cell? ⟨g,0,none⟩ = some (.int .i64 kd) ∧ w'.cell? ⟨g,1,none⟩ = some (.int .i64 l) ∧ w'.cell? ⟨g,2,none⟩ = some (.int .i64 r) ∧ w'.cell? ⟨g,3,none⟩ = some (.int .i64 n) ∧ w'.cell? ⟨g,4,none⟩ = some (.string tx) ∧ w'.cell? ⟨g,5,none⟩ = some (.string un) ∧ w'.cell? ⟨g,6,none⟩ = some (.int .i64 po) ∧ w'.cell? (ad.add r.toNat) = some (.int .i64 ev) ∧ w'.cell? (ad.add l.toNat) = some (.int .i64 ev2) ∧ Below W.heap.size W w') (ds := []) #[false,false,false,false,false,false,false,false,false,false,false,false,false] (by kernel_rfl) rfl rfl (KS.out _ hBe) (fun hHeld => ?_)
  refine with_tabW tbegin_tab22 tbegin_bits22 (fun HT_ HW_ => ?_)
  refine pure_ (i := 0) (N := (some 155)) (v := ?_) (a' := ?_) #[true,false,false,false,false,false,false,false,false,false,false,false,false] rfl rfl (any_of HT_.out (by kernel_rfl)) (fun _ _ _ h => h) (Or.inl ⟨by rfl,?_⟩) ?_ ?_
  rotate_left
  ·intro w'
   go_simp
   with_reducible rfl
  rotate_left
  ·simp only [Act.put,zYTrDa,zYTrDb,zYTrDc]
   rfl
  refine pure_ (i := 1) (N := (some 156)) (v := ?_) (a' := ?_) #[true,true,false,false,false,false,false,false,false,false,false,false,false] rfl rfl (any_of HT_.out (by kernel_rfl)) (fun _ _ _ h => h) (Or.inl ⟨by rfl,?_⟩) ?_ ?_
  rotate_left
  ·intro w'
   go_simp
   with_reducible rfl
  rotate_left
  ·simp only [Act.put,zYTrDa,zYTrDb,zYTrDc]
   rfl
  refine pure_ (i := 7) (N := (some 162)) (v := ?_) (a' := ?_) #[true,true,false,false,false,false,false,true,false,false,false,false,false] rfl rfl (any_of HT_.out (by kernel_rfl)) (fun _ _ _ h => h) (Or.inl ⟨by rfl,?_⟩) ?_ ?_
  rotate_left
  ·intro w'
   go_simp
   with_reducible rfl
  rotate_left
  ·simp only [Act.put,zYTrDa,zYTrDb,zYTrDc]
   rfl
  refine take_ (i := 2) (N := (some 157)) (v := ?_) (a' := ?_) #[true,true,true,false,false,false,false,true,false,false,false,false,false] rfl rfl (take_ofW HT_.out HW_.out (by kernel_rfl)) (fun _ _ _ h => h) (Or.inl ⟨by rfl,?_⟩) hHeld ?_ ?_
  rotate_left
  ·rintro w' ⟨s0,s1,s2,s3,s4,s5,s6,s7,s8,_⟩
   go_simp
   with_reducible rfl
  rotate_left
  ·simp only [Act.put,zYTrDa,zYTrDb,zYTrDc]
   rfl
  refine pure_ (i := 3) (N := (some 158)) (v := ?_) (a' := ?_) #[true,true,true,true,false,false,false,true,false,false,false,false,false] rfl rfl (any_of HT_.out (by kernel_rfl)) (fun _ _ _ h => h) (Or.inl ⟨by rfl,?_⟩) ?_ ?_
  rotate_left
  ·intro w'
   go_simp
   with_reducible rfl
  rotate_left
  ·simp only [Act.put,zYTrDa,zYTrDb,zYTrDc]
   rfl
  refine take_ (i := 4) (N := (some 159)) (v := ?_) (a' := ?_) #[true,true,true,true,true,false,false,true,false,false,false,false,false] rfl rfl (take_ofW HT_.out HW_.out (by kernel_rfl)) (fun _ _ _ h => h) (Or.inl ⟨by rfl,?_⟩) hHeld ?_ ?_
  rotate_left
  ·rintro w' ⟨s0,s1,s2,s3,s4,s5,s6,s7,s8,_⟩
   go_simp
   with_reducible rfl
  rotate_left
  ·simp only [Act.put,zYTrDa,zYTrDb,zYTrDc]
   rfl
  refine take_ (i := 5) (N := (some 160)) (v := ?_) (a' := ?_) #[true,true,true,true,true,true,false,true,false,false,false,false,false] rfl rfl (take_ofW HT_.out HW_.out (by kernel_rfl)) (fun _ _ _ h => h) (Or.inl ⟨by rfl,?_⟩) hHeld ?_ ?_
  rotate_left
  ·rintro w' ⟨s0,s1,s2,s3,s4,s5,s6,s7,s8,_⟩
   go_simp
   with_reducible rfl
  rotate_left
  ·simp only [Act.put,zYTrDa,zYTrDb,zYTrDc]
   rfl
  refine take_ (i := 8) (N := (some 163)) (v := ?_) (a' := ?_) #[true,true,true,true,true,true,false,true,true,false,false,false,false] rfl rfl (take_ofW HT_.out HW_.out (by kernel_rfl)) (fun _ _ _ h => h) (Or.inl ⟨by rfl,?_⟩) hHeld ?_ ?_
  rotate_left
  ·rintro w' ⟨s0,s1,s2,s3,s4,s5,s6,s7,s8,_⟩
   go_simp
   with_reducible rfl
  rotate_left
  ·simp only [Act.put,zYTrDa,zYTrDb,zYTrDc]
   rfl
  refine pure_ (i := 9) (N := (some 164)) (v := ?_) (a' := ?_) #[true,true,true,true,true,true,false,true,true,true,false,false,false] rfl rfl (any_of HT_.out (by kernel_rfl)) (fun _ _ _ h => h) (Or.inl ⟨by rfl,?_⟩) ?_ ?_
  rotate_left
  ·intro w'
   go_simp
   with_reducible rfl
  rotate_left
  ·simp only [Act.put,zYTrDa,zYTrDb,zYTrDc]
   rfl
  refine one_ (i := 6) (N := (some 161)) #[true,true,true,true,true,true,true,true,true,true,false,false,false] rfl rfl (one_of HT_.out (by kernel_rfl)) (by decide) (fun K hK => ?_)
  refine goes_ Tryd.func83 (by kernel_rfl) rfl #[.agg #[.int .i64 kd,.int .i64 l,.int .i64 r,.int .i64 n,.string tx,.string un,.int .i64 po]] (by rfl) rfl rfl (by (try simp only [List.map_toArray,List.map_cons,List.map_nil]);first | done | rfl) ?_
  (with_reducible refine (KF.out _).mono ?_)
  rintro e w1 ⟨rfl,hb1⟩
  refine ⟨_,rfl,?_⟩
  have hB1 := bl_then hBe hb1
  refine hK.out _ _ (KS.out _ hB1) (fun hHeld => ?_)
  clear hK K
  refine norm_ (a' := ?_) ?_ ?_
  rotate_left
  ·show Act.put _ (some 161) _ = _
   simp only [Act.put,zYTrDa,zYTrDb,zYTrDc]
   rfl
  refine pure_ (i := 10) (N := (some 165)) (v := ?_) (a' := ?_) #[true,true,true,true,true,true,true,true,true,true,true,false,false] rfl rfl (any_of HT_.out (by kernel_rfl)) (fun _ _ _ h => h) (Or.inl ⟨by rfl,?_⟩) ?_ ?_
  rotate_left
  ·intro w'
   go_simp
   with_reducible rfl
  rotate_left
  ·simp only [Act.put,zYTrDa,zYTrDb,zYTrDc]
   rfl
  refine pure_ (i := 11) (N := (some 4)) (v := ?_) (a' := ?_) #[true,true,true,true,true,true,true,true,true,true,true,true,false] rfl rfl (any_of HT_.out (by kernel_rfl)) (fun _ _ _ h => h) (Or.inl ⟨by rfl,?_⟩) ?_ ?_
  rotate_left
  ·intro w'
   go_simp
   with_reducible rfl
  rotate_left
  ·simp only [Act.put,zYTrDa,zYTrDb,zYTrDc]
   rfl
  refine pure_ (i := 12) (N := (some 5)) (v := ?_) (a' := ?_) #[true,true,true,true,true,true,true,true,true,true,true,true,true] rfl rfl (any_of HT_.out (by kernel_rfl)) (fun _ _ _ h => h) (Or.inl ⟨by rfl,?_⟩) ?_ ?_
  rotate_left
  ·intro w'
   go_simp
   with_reducible rfl
  rotate_left
  ·simp only [Act.put,zYTrDa,zYTrDb,zYTrDc]
   rfl
  refine done_ (done_of HT_.out (by kernel_rfl)) ?_
  have HB2 := Lib.hid (HBW.out.trans (hB1.mono HBW.out.size))
  go_wp2_with fail
  exact bodyPost_ret (v := .tuple #[.int .i64 ev2,.bool q0]) (by simp [results,Tryd.results64,go_sem]) rfl ⟨rfl,by first | exact HB2.out | (rw [← hg];exact HB2.out)⟩
end Go.Proofs.YtcajdkncohcaeaaDoor
