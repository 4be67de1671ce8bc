import Derived.Test.YtcajdkncohcaeaaDoorYTrA
import Derived.Test.YtcajdkncohcaeaaDoorYW
namespace Go.Proofs.YtcajdkncohcaeaaDoor
set_option linter.unusedVariables false
set_option linter.unusedSimpArgs false
theorem zYTrBa {α : Type} (l : List α) (i : Nat) (a : α) : l.toArray.setIfInBounds i a = (l.set i a).toArray := by simp
theorem zYTrBb {α : Type} (l : List α) (a b : α) : (a :: l).set 0 b = b :: l := rfl
theorem zYTrBc {α : Type} (l : List α) (i : Nat) (a b : α) : (a :: l).set (i + 1) b = a :: l.set i b := rfl
open Go.RowKit Go.Proofs.YtcajdkncohcaeaaDoorW.PrintWords Go.Proofs.YtcajdkncohcaeaaDoorW.PrintLast Go.Proofs.YtcajdkncohcaeaaDoorW.PrintMore
attribute [local go_sem] max2_int min2_int max_two min_two
theorem tfaced_at (kd l r n po : Int) (tx un : ByteArray) (w : World) :
 Calls Tryd.prog 83 #[.agg #[.int .i64 kd,.int .i64 l,.int .i64 r,.int .i64 n,.string tx,.string un,.int .i64 po]] w fun e w' => e = .returned (.agg #[.int .i64 kd,.int .i64 n,.string tx,.string un]) ∧ Below w.heap.size w w' :=
 tfaced_any ⟨kd,l,r,n,tx,un,po⟩ w
def tbegin_T4 : Bool × List (List Nat × List Nat) := (true,[([],[]),([0],[0]),([],[]),([2],[2]),([],[]),([4],[4]),([3,5],[3,5]),([1,6],[1,6]),([7,1],[7]),([8],[8]),([9,8],[8,9]),([10,8],[8,10]),([8,11],[8,11]),([12,8],[12]),([13],[13]),([14,13],[13,14]),([15,13],[13,15]),([13,16],[13,16]),([17,13,0,1,2,3,4,5,6,7,8,9,10,11,12,13,14,15,16,17],[17])])
def tbegin_B4 : List Nat := [0,1,0,4,0,16,60,127,255,511,1023,2047,4095,8191,16383,32767,65535,131071,262143]
theorem tbegin_tab4 : rtab .any (opsOf Tryd.f64 4) = tbegin_T4 := by kernel_rfl
theorem tbegin_bits4 : waitsOk tbegin_T4.2 tbegin_B4 = true := by kernel_rfl
def tbegin_T7 : Bool × List (List Nat × List Nat) := (true,[([],[]),([0],[0]),([],[]),([2],[2]),([3],[3]),([1,4],[1,4]),([5,1],[5]),([6],[6]),([7,6],[6,7]),([8,6],[6,8]),([6,9],[6,9]),([10,6],[10]),([11],[11]),([12,11],[11,12]),([13,11],[11,13]),([11,14],[11,14]),([15,11,0,1,2,3,4,5,6,7,8,9,10,11,12,13,14,15],[15])])
def tbegin_B7 : List Nat := [0,1,0,4,12,31,63,127,255,511,1023,2047,4095,8191,16383,32767,65535]
theorem tbegin_tab7 : rtab .any (opsOf Tryd.f64 7) = tbegin_T7 := by kernel_rfl
theorem tbegin_bits7 : waitsOk tbegin_T7.2 tbegin_B7 = true := by kernel_rfl
def tbegin_T14 : Bool × List (List Nat × List Nat) := (true,[([],[]),([0],[0]),([],[]),([2],[2]),([],[]),([4],[4]),([3,5],[3,5]),([1,6],[1,6]),([7,1],[7]),([8],[8]),([9,8],[8,9]),([10,8],[8,10]),([11,8,8],[8,11]),([12],[12]),([13,12],[12,13]),([14,12],[12,14]),([12,15,8],[8,12,15]),([8,16],[8,16]),([17,12,0,1,2,3,4,5,6,7,8,9,10,11,12,13,14,15,16,17],[17])])
def tbegin_B14 : List Nat := [0,1,0,4,0,16,60,127,255,511,1023,2047,4095,8191,16383,32767,65535,131071,262143]
theorem tbegin_tab14 : rtab .any (opsOf Tryd.f64 14) = tbegin_T14 := by kernel_rfl
theorem tbegin_bits14 : waitsOk tbegin_T14.2 tbegin_B14 = true := by kernel_rfl
def tbegin_T15 : Bool × List (List Nat × List Nat) := (true,[([],[]),([],[]),([1],[1]),([0,2],[0,2]),([3],[3]),([],[]),([5],[5]),([6],[6]),([7,6],[6,7]),([6,8],[6,8]),([9,6],[9]),([10],[10]),([11,10],[10,11]),([12,10],[10,12]),([10,13],[10,13]),([4,10,0,1,2,3,4],[4]),([14,15,0,1,2,3,4,5,6,7,8,9,10,11,12,13,14,15],[14])])
def tbegin_B15 : List Nat := [0,0,2,7,15,0,32,96,224,480,992,2016,4064,8160,16352,2047,65535]
theorem tbegin_tab15 : rtab .any (opsOf Tryd.f64 15) = tbegin_T15 := by kernel_rfl
theorem tbegin_bits15 : waitsOk tbegin_T15.2 tbegin_B15 = true := by kernel_rfl
def tbegin_T20 : Bool × List (List Nat × List Nat) := (true,[([],[]),([0],[0]),([1],[1]),([2],[2]),([3,2],[2,3]),([2],[2]),([5,2],[2,5]),([4,6,2],[2,4,6]),([2,7],[2,7]),([8,2],[8]),([9],[9]),([10,9],[9,10]),([9],[9]),([9],[9]),([13,9],[9,13]),([12,14,9],[9,12,14]),([15,9],[9,15]),([16,9],[9,16]),([11,17,9],[9,11,17]),([9,18],[9,18]),([19,9],[19]),([20],[20]),([21,20],[20,21]),([22,20],[20,22]),([20,23],[20,23])])
def tbegin_B20 : List Nat := [0,1,3,7,15,7,39,127,255,511,1023,2047,1023,1023,9215,29695,62463,127999,262143,524287,1048575,2097151,4194303,8388607,16777215]
theorem tbegin_tab20 : rtab .any (opsOf Tryd.f64 20) = tbegin_T20 := by kernel_rfl
theorem tbegin_bits20 : waitsOk tbegin_T20.2 tbegin_B20 = true := by kernel_rfl
def tbegin_T22 : Bool × List (List Nat × List Nat) := (true,[([],[]),([],[]),([1],[1]),([0,2],[0,2]),([3],[3]),([],[]),([5],[5]),([],[]),([7],[7]),([8],[8]),([6,9],[6,9]),([4,6,0,1,2,3,4],[4]),([10,11,0,1,2,3,4,5,6,7,8,9,10,11],[10])])
def tbegin_B22 : List Nat := [0,0,2,7,15,0,32,0,128,384,992,127,4095]
theorem tbegin_tab22 : rtab .any (opsOf Tryd.f64 22) = tbegin_T22 := by kernel_rfl
theorem tbegin_bits22 : waitsOk tbegin_T22.2 tbegin_B22 = true := by kernel_rfl
set_option maxRecDepth 20000 in
set_option maxHeartbeats 8000000 in
theorem tbegin_lit (l r n po : Int) (tx un : ByteArray) (A : Option Addr) (m c : Nat) (w : World) (ht : tx.size ≤ 140737488351232) (hG : Glob w) :
 Calls Tryd.prog 64 #[.agg #[.int .i64 1,.int .i64 l,.int .i64 r,.int .i64 n,.string tx,.string un,.int .i64 po],.slice A m c] w fun e w' => e = .returned (.tuple #[.int .i64 m,.bool ((n == 0) && ((l == 0) && ((r == 0) && (goodL tx && unitB un))))]) ∧ Below w.heap.size w w' := by
 obtain ⟨g,hg⟩ : ∃ g,w.heap.size = g := ⟨_,rfl⟩
 obtain ⟨W,hW⟩ : ∃ W,w.alloc (.cells #[.int .i64 1,.int .i64 l,.int .i64 r,.int .i64 n,.string tx,.string un,.int .i64 po] 52) = W := ⟨_,rfl⟩
 have s1 : W.heap.size = g + 1 := by rw [← hW,← hg];simp
 have HBW : Hid (Below w.heap.size w W) := Lib.hid (by rw [← hW];exact alloc_keep _ _)
 have GG : Hid (∀ w' : World,Below W.heap.size W w' → Glob w') := Lib.hid (fun w' h => (hG.below HBW.out).below h)
 have hcell : W.cell? ⟨g,0,none⟩ = some (.int .i64 1) ∧ W.cell? ⟨g,1,none⟩ = some (.int .i64 l) ∧ W.cell? ⟨g,2,none⟩ = some (.int .i64 r) ∧ W.cell? ⟨g,3,none⟩ = some (.int .i64 n) ∧ W.cell? ⟨g,4,none⟩ = some (.string tx) ∧ W.cell? ⟨g,5,none⟩ = some (.string un) ∧ W.cell? ⟨g,6,none⟩ = some (.int .i64 po) := by rw [← hW,← hg];simp
 have KS : Hid (∀ w' : World,Below W.heap.size W w' → (w'.cell? ⟨g,0,none⟩ = some (.int .i64 1) ∧ w'.cell? ⟨g,1,none⟩ = some (.int .i64 l) ∧ w'.cell? ⟨g,2,none⟩ = some (.int .i64 r) ∧ w'.cell? ⟨g,3,none⟩ = some (.int .i64 n) ∧ w'.cell? ⟨g,4,none⟩ = some (.string tx) ∧ w'.cell? ⟨g,5,none⟩ = some (.string un) ∧ w'.cell? ⟨g,6,none⟩ = some (.int .i64 po) ∧ Below W.heap.size W w')) := Lib.hid (fun w' h => by
  obtain ⟨p0,p1,p2,p3,p4,p5,p6⟩ := hcell
  have mv : ∀ (j : Nat) (u : Value),W.cell? ⟨g,j,none⟩ = some u → w'.cell? ⟨g,j,none⟩ = some u := fun j u hu => (h.cell (p := ⟨g,j,none⟩) (show g < W.heap.size by omega)).trans hu
  exact ⟨mv 0 _ p0,mv 1 _ p1,mv 2 _ p2,mv 3 _ p3,mv 4 _ p4,mv 5 _ p5,mv 6 _ p6,h⟩)
 have HS := Lib.hid hW
 have KF : Hid (∀ w : World,Calls Tryd.prog 83 #[.agg #[.int .i64 1,.int .i64 l,.int .i64 r,.int .i64 n,.string tx,.string un,.int .i64 po]] w fun e w' => e = .returned (.agg #[.int .i64 1,.int .i64 n,.string tx,.string un]) ∧ Below w.heap.size w w') := Lib.hid (fun w => tfaced_at 1 l r n po tx un w)
 have hBd : Below W.heap.size W W.drew := bl_drew (Below.refl _ _)
 clear hW hcell hG
 generalize h0 : ((n : Int) == 0) = q0
 generalize h1 : ((l : Int) == 0) = q1
 generalize h2 : ((r : Int) == 0) = q2
 generalize h3 : goodL tx = q3
 generalize h4 : unitB un = q4
 have K4 : Hid (∀ w : World,Glob w → Calls Tryd.prog 21 #[.string tx] w fun e w' => e = .returned (.bool q3) ∧ w = w') := Lib.hid (fun w hG => by rw [← h3];exact lgood_any tx w ht hG)
 have K5 : Hid (∀ w : World,Calls Tryd.prog 84 #[.string un] w fun e w' => e = .returned (.bool q4) ∧ w = w') := Lib.hid (fun w => by rw [← h4];exact ttext_any un w)
 have hE : ∀ (d : Nat) (w : World),(Op.equalIn (d + 2) 109 (.agg #[.int .i64 1,.int .i64 n,.string tx,.string un]) (.agg #[.int .i64 1,.int .i64 0,.string tx,.string un])).run Tryd.prog w = .ok q0 w := fun d w => by
  rw [eqFace,h0];simp
 clear h3 h4
 rcases (show q0 = false ∨ (q0 = true ∧ q1 = false) ∨ (q0 = true ∧ q1 = true ∧ q2 = false) ∨ (q0 = true ∧ q1 = true ∧ q2 = true ∧ q3 = false) ∨ (q0 = true ∧ q1 = true ∧ q2 = true ∧ q3 = true) from by cases q0 <;> cases q1 <;> cases q2 <;> cases q3 <;> simp) with rfl | ⟨rfl,rfl⟩ | ⟨rfl,rfl,rfl⟩ | ⟨rfl,rfl,rfl,rfl⟩ | ⟨rfl,rfl,rfl,rfl⟩
 all_goals
  go_enter Tryd.func64,Tryd.ntmps64
  go_wp2_with fail
  rw [HS.out]
  obtain ⟨p0,p1,p2,p3,p4,p5,p6,_⟩ := KS.out W (Below.refl _ _)
  go_wp2_with fail
  clear p0 p1 p2 p3 p4 p5 p6
  refine start_ (n := 19) (S := fun w' => w'.cell? ⟨g,0,none⟩ = some (.int .i64 1) ∧ w'.cell? ⟨g,1,none⟩ = some (.int .i64 l) ∧ w'.cell? ⟨g,2,none⟩ = some (.int .i64 r) ∧ w'.cell? ⟨g,3,none⟩ = some (.int .i64 n) ∧ w'.cell? ⟨g,4,none⟩ = some (.string tx) ∧ w'.cell? ⟨g,5,none⟩ = some (.string un) ∧ w'.cell? ⟨g,6,none⟩ = some (.int .i64 po) ∧ Below W.heap.size W w') (ds := []) #[false,false,false,false,false,false,false,false,false,false,false,false,false,false,false,false,false,false,false] (by kernel_rfl) rfl rfl (KS.out _ hBd) (fun hHeld => ?_)
  refine with_tabW tbegin_tab4 tbegin_bits4 (fun HT_ HW_ => ?_)
  refine pure_ (i := 2) (N := (some 19)) (v := ?_) (a' := ?_) #[false,false,true,false,false,false,false,false,false,false,false,false,false,false,false,false,false,false,false] rfl rfl (any_of HT_.out (by kernel_rfl)) (fun _ _ _ h => h) (Or.inl ⟨by rfl,?_⟩) ?_ ?_
  rotate_left
  ·intro w'
   go_simp
   with_reducible rfl
  rotate_left
  ·simp only [Act.put,zYTrBa,zYTrBb,zYTrBc]
   rfl
  refine pure_ (i := 4) (N := (some 21)) (v := ?_) (a' := ?_) #[false,false,true,false,true,false,false,false,false,false,false,false,false,false,false,false,false,false,false] rfl rfl (any_of HT_.out (by kernel_rfl)) (fun _ _ _ h => h) (Or.inl ⟨by rfl,?_⟩) ?_ ?_
  rotate_left
  ·intro w'
   go_simp
   with_reducible rfl
  rotate_left
  ·simp only [Act.put,zYTrBa,zYTrBb,zYTrBc]
   rfl
  refine take_ (i := 0) (N := (some 17)) (v := ?_) (a' := ?_) #[true,false,true,false,true,false,false,false,false,false,false,false,false,false,false,false,false,false,false] rfl rfl (take_ofW HT_.out HW_.out (by kernel_rfl)) (fun _ _ _ h => h) (Or.inl ⟨by rfl,?_⟩) hHeld ?_ ?_
  rotate_left
  ·rintro w' ⟨s0,s1,s2,s3,s4,s5,s6,_⟩
   go_simp
   with_reducible rfl
  rotate_left
  ·simp only [Act.put,zYTrBa,zYTrBb,zYTrBc]
   rfl
  refine take_ (i := 3) (N := (some 20)) (v := ?_) (a' := ?_) #[true,false,true,true,true,false,false,false,false,false,false,false,false,false,false,false,false,false,false] rfl rfl (take_ofW HT_.out HW_.out (by kernel_rfl)) (fun _ _ _ h => h) (Or.inl ⟨by rfl,?_⟩) hHeld ?_ ?_
  rotate_left
  ·rintro w' ⟨s0,s1,s2,s3,s4,s5,s6,_⟩
   go_simp
   with_reducible rfl
  rotate_left
  ·simp only [Act.put,zYTrBa,zYTrBb,zYTrBc]
   rfl
  refine take_ (i := 5) (N := (some 22)) (v := ?_) (a' := ?_) #[true,false,true,true,true,true,false,false,false,false,false,false,false,false,false,false,false,false,false] rfl rfl (take_ofW HT_.out HW_.out (by kernel_rfl)) (fun _ _ _ h => h) (Or.inl ⟨by rfl,?_⟩) hHeld ?_ ?_
  rotate_left
  ·rintro w' ⟨s0,s1,s2,s3,s4,s5,s6,_⟩
   go_simp
   with_reducible rfl
  rotate_left
  ·simp only [Act.put,zYTrBa,zYTrBb,zYTrBc]
   rfl
  refine pure_ (i := 6) (N := (some 23)) (v := ?_) (a' := ?_) #[true,false,true,true,true,true,true,false,false,false,false,false,false,false,false,false,false,false,false] rfl rfl (any_of HT_.out (by kernel_rfl)) (fun _ _ _ h => h) (Or.inl ⟨by rfl,?_⟩) ?_ ?_
  rotate_left
  ·intro w'
   go_simp
   with_reducible rfl
  rotate_left
  ·simp only [Act.put,zYTrBa,zYTrBb,zYTrBc]
   rfl
  refine one_ (i := 1) (N := (some 18)) #[true,true,true,true,true,true,true,false,false,false,false,false,false,false,false,false,false,false,false] rfl rfl (one_of HT_.out (by kernel_rfl)) (by decide) (fun K hK => ?_)
  refine goes_ Tryd.func83 (by kernel_rfl) rfl #[.agg #[.int .i64 1,.int .i64 l,.int .i64 r,.int .i64 n,.string tx,.string un,.int .i64 po]] (by rfl) rfl rfl (by (try simp only [List.map_toArray,List.map_cons,List.map_nil]);first | done | rfl) ?_
  (with_reducible refine (KF.out _).mono ?_)
  rintro e w1 ⟨rfl,hb1⟩
  refine ⟨_,rfl,?_⟩
  have hB1 := bl_then hBd hb1
  refine hK.out _ _ (KS.out _ hB1) (fun hHeld => ?_)
  clear hK K
  refine norm_ (a' := ?_) ?_ ?_
  rotate_left
  ·show Act.put _ (some 18) _ = _
   simp only [Act.put,zYTrBa,zYTrBb,zYTrBc]
   rfl
  refine pure_ (i := 7) (N := (some 24)) (v := ?_) (a' := ?_) #[true,true,true,true,true,true,true,true,false,false,false,false,false,false,false,false,false,false,false] rfl rfl (any_of HT_.out (by kernel_rfl)) (fun _ _ _ h => h) (Or.inl ⟨by rfl,?_⟩) ?_ ?_
  rotate_left
  ·intro w'
   go_simp
   with_reducible rfl
  rotate_left
  ·simp only [Act.put,zYTrBa,zYTrBb,zYTrBc]
   rfl
  refine pure_ (i := 8) (N := (some 25)) (v := ?_) (a' := ?_) #[true,true,true,true,true,true,true,true,true,false,false,false,false,false,false,false,false,false,false] rfl rfl (any_of HT_.out (by kernel_rfl)) (fun _ _ _ h => h) (Or.inl ⟨by rfl,?_⟩) ?_ ?_
  rotate_left
  ·intro w'
   go_simp
   with_reducible rfl
  rotate_left
  ·simp only [Act.put,zYTrBa,zYTrBb,zYTrBc]
   rfl
  first
  |(refine pure_ (i := 9) (N := (some 26)) (v := ?_) (a' := ?_) #[true,true,true,true,true,true,true,true,true,true,false,false,false,false,false,false,false,false,false] rfl rfl (any_of HT_.out (by kernel_rfl)) (fun _ _ _ h => h) (Or.inl ⟨by rfl,?_⟩) ?_ ?_
    rotate_left
    ·intro w'
     go_simp
     with_reducible rfl
    rotate_left
    ·simp only [Act.put,zYTrBa,zYTrBb,zYTrBc]
     rfl)
  |(refine pure_ (i := 9) (N := (some 26)) (v := undef) (a' := ?_) #[true,true,true,true,true,true,true,true,true,true,false,false,false,false,false,false,false,false,false] rfl rfl (any_of HT_.out (by kernel_rfl)) (fun _ _ _ h => h) (Or.inr ⟨by rfl,rfl⟩) ?_ ?_
    rotate_left
    ·simp only [Act.put,zYTrBa,zYTrBb,zYTrBc]
     rfl)
  first
  |(refine take_ (i := 10) (N := (some 27)) (v := ?_) (a' := ?_) #[true,true,true,true,true,true,true,true,true,true,true,false,false,false,false,false,false,false,false] rfl rfl (take_ofW HT_.out HW_.out (by kernel_rfl)) (fun _ _ _ h => h) (Or.inl ⟨by rfl,?_⟩) hHeld ?_ ?_
    rotate_left
    ·rintro w' ⟨s0,s1,s2,s3,s4,s5,s6,_⟩
     go_simp
     with_reducible rfl
    rotate_left
    ·simp only [Act.put,zYTrBa,zYTrBb,zYTrBc]
     rfl)
  |(refine pure_ (i := 10) (N := (some 27)) (v := undef) (a' := ?_) #[true,true,true,true,true,true,true,true,true,true,true,false,false,false,false,false,false,false,false] rfl rfl (any_of HT_.out (by kernel_rfl)) (fun _ _ _ h => h) (Or.inr ⟨by rfl,rfl⟩) ?_ ?_
    rotate_left
    ·simp only [Act.put,zYTrBa,zYTrBb,zYTrBc]
     rfl)
  first
  |(refine pure_ (i := 11) (N := (some 28)) (v := ?_) (a' := ?_) #[true,true,true,true,true,true,true,true,true,true,true,true,false,false,false,false,false,false,false] rfl rfl (any_of HT_.out (by kernel_rfl)) (fun _ _ _ h => h) (Or.inl ⟨by rfl,?_⟩) ?_ ?_
    rotate_left
    ·intro w'
     go_simp
     with_reducible rfl
    rotate_left
    ·simp only [Act.put,zYTrBa,zYTrBb,zYTrBc]
     rfl)
  |(refine pure_ (i := 11) (N := (some 28)) (v := undef) (a' := ?_) #[true,true,true,true,true,true,true,true,true,true,true,true,false,false,false,false,false,false,false] rfl rfl (any_of HT_.out (by kernel_rfl)) (fun _ _ _ h => h) (Or.inr ⟨by rfl,rfl⟩) ?_ ?_
    rotate_left
    ·simp only [Act.put,zYTrBa,zYTrBb,zYTrBc]
     rfl)
  refine pure_ (i := 12) (N := (some 29)) (v := ?_) (a' := ?_) #[true,true,true,true,true,true,true,true,true,true,true,true,true,false,false,false,false,false,false] rfl rfl (any_of HT_.out (by kernel_rfl)) (fun _ _ _ h => h) (Or.inl ⟨by rfl,?_⟩) ?_ ?_
  rotate_left
  ·intro w'
   go_simp
   with_reducible rfl
  rotate_left
  ·simp only [Act.put,zYTrBa,zYTrBb,zYTrBc]
   rfl
  refine pure_ (i := 13) (N := (some 30)) (v := ?_) (a' := ?_) #[true,true,true,true,true,true,true,true,true,true,true,true,true,true,false,false,false,false,false] rfl rfl (any_of HT_.out (by kernel_rfl)) (fun _ _ _ h => h) (Or.inl ⟨by rfl,?_⟩) ?_ ?_
  rotate_left
  ·intro w'
   go_simp
   with_reducible rfl
  rotate_left
  ·simp only [Act.put,zYTrBa,zYTrBb,zYTrBc]
   rfl
  first
  |(refine pure_ (i := 14) (N := (some 31)) (v := ?_) (a' := ?_) #[true,true,true,true,true,true,true,true,true,true,true,true,true,true,true,false,false,false,false] rfl rfl (any_of HT_.out (by kernel_rfl)) (fun _ _ _ h => h) (Or.inl ⟨by rfl,?_⟩) ?_ ?_
    rotate_left
    ·intro w'
     go_simp
     with_reducible rfl
    rotate_left
    ·simp only [Act.put,zYTrBa,zYTrBb,zYTrBc]
     rfl)
  |(refine pure_ (i := 14) (N := (some 31)) (v := undef) (a' := ?_) #[true,true,true,true,true,true,true,true,true,true,true,true,true,true,true,false,false,false,false] rfl rfl (any_of HT_.out (by kernel_rfl)) (fun _ _ _ h => h) (Or.inr ⟨by rfl,rfl⟩) ?_ ?_
    rotate_left
    ·simp only [Act.put,zYTrBa,zYTrBb,zYTrBc]
     rfl)
  first
  |(refine take_ (i := 15) (N := (some 32)) (v := ?_) (a' := ?_) #[true,true,true,true,true,true,true,true,true,true,true,true,true,true,true,true,false,false,false] rfl rfl (take_ofW HT_.out HW_.out (by kernel_rfl)) (fun _ _ _ h => h) (Or.inl ⟨by rfl,?_⟩) hHeld ?_ ?_
    rotate_left
    ·rintro w' ⟨s0,s1,s2,s3,s4,s5,s6,_⟩
     go_simp
     with_reducible rfl
    rotate_left
    ·simp only [Act.put,zYTrBa,zYTrBb,zYTrBc]
     rfl)
  |(refine pure_ (i := 15) (N := (some 32)) (v := undef) (a' := ?_) #[true,true,true,true,true,true,true,true,true,true,true,true,true,true,true,true,false,false,false] rfl rfl (any_of HT_.out (by kernel_rfl)) (fun _ _ _ h => h) (Or.inr ⟨by rfl,rfl⟩) ?_ ?_
    rotate_left
    ·simp only [Act.put,zYTrBa,zYTrBb,zYTrBc]
     rfl)
  first
  |(refine pure_ (i := 16) (N := (some 33)) (v := ?_) (a' := ?_) #[true,true,true,true,true,true,true,true,true,true,true,true,true,true,true,true,true,false,false] rfl rfl (any_of HT_.out (by kernel_rfl)) (fun _ _ _ h => h) (Or.inl ⟨by rfl,?_⟩) ?_ ?_
    rotate_left
    ·intro w'
     go_simp
     with_reducible rfl
    rotate_left
    ·simp only [Act.put,zYTrBa,zYTrBb,zYTrBc]
     rfl)
  |(refine pure_ (i := 16) (N := (some 33)) (v := undef) (a' := ?_) #[true,true,true,true,true,true,true,true,true,true,true,true,true,true,true,true,true,false,false] rfl rfl (any_of HT_.out (by kernel_rfl)) (fun _ _ _ h => h) (Or.inr ⟨by rfl,rfl⟩) ?_ ?_
    rotate_left
    ·simp only [Act.put,zYTrBa,zYTrBb,zYTrBc]
     rfl)
  refine pure_ (i := 17) (N := (some 34)) (v := ?_) (a' := ?_) #[true,true,true,true,true,true,true,true,true,true,true,true,true,true,true,true,true,true,false] rfl rfl (any_of HT_.out (by kernel_rfl)) (fun _ _ _ h => h) (Or.inl ⟨by rfl,?_⟩) ?_ ?_
  rotate_left
  ·intro w'
   go_simp
   with_reducible rfl
  rotate_left
  ·simp only [Act.put,zYTrBa,zYTrBb,zYTrBc]
   rfl
  refine pure_ (i := 18) (N := (some 7)) (v := ?_) (a' := ?_) #[true,true,true,true,true,true,true,true,true,true,true,true,true,true,true,true,true,true,true] rfl rfl (any_of HT_.out (by kernel_rfl)) (fun _ _ _ h => h) (Or.inl ⟨by rfl,?_⟩) ?_ ?_
  rotate_left
  ·intro w'
   go_simp
   with_reducible rfl
  rotate_left
  ·simp only [Act.put,zYTrBa,zYTrBb,zYTrBc]
   rfl
  refine done_ (done_of HT_.out (by kernel_rfl)) ?_
  obtain ⟨p0,p1,p2,p3,p4,p5,p6,hB2⟩ := KS.out w1 hB1
  have G1 := GG.out _ hB1
  have HB2 := Lib.hid (HBW.out.trans (hB2.mono HBW.out.size))
  go_wp2_with (first | (go_at_call 21;(with_reducible refine (K4.out _ G1).mono ?_);rintro e w' ⟨rfl,rfl⟩) | (go_at_call 84;(with_reducible refine (K5.out _).mono ?_);rintro e w' ⟨rfl,rfl⟩))
  exact bodyPost_ret (v := .tuple #[.int .i64 m,.bool _]) (by simp [results,Tryd.results64,go_sem]) rfl ⟨rfl,by first | exact HB2.out | (rw [← hg];exact HB2.out)⟩
set_option maxRecDepth 20000 in
set_option maxHeartbeats 8000000 in
theorem tbegin_ref (l r n po : Int) (tx un : ByteArray) (A : Option Addr) (m c : Nat) (w : World) (ht : tx.size ≤ 140737488351232) (hG : Glob w) :
 Calls Tryd.prog 64 #[.agg #[.int .i64 2,.int .i64 l,.int .i64 r,.int .i64 n,.string tx,.string un,.int .i64 po],.slice A m c] w fun e w' => e = .returned (.tuple #[.int .i64 m,.bool ((n == 0 && un.toList == []) && ((l == 0) && ((r == 0) && isName tx)))]) ∧ Below w.heap.size w w' := by
 obtain ⟨g,hg⟩ : ∃ g,w.heap.size = g := ⟨_,rfl⟩
 obtain ⟨W,hW⟩ : ∃ W,w.alloc (.cells #[.int .i64 2,.int .i64 l,.int .i64 r,.int .i64 n,.string tx,.string un,.int .i64 po] 52) = W := ⟨_,rfl⟩
 have s1 : W.heap.size = g + 1 := by rw [← hW,← hg];simp
 have HBW : Hid (Below w.heap.size w W) := Lib.hid (by rw [← hW];exact alloc_keep _ _)
 have GG : Hid (∀ w' : World,Below W.heap.size W w' → Glob w') := Lib.hid (fun w' h => (hG.below HBW.out).below h)
 have hcell : W.cell? ⟨g,0,none⟩ = some (.int .i64 2) ∧ W.cell? ⟨g,1,none⟩ = some (.int .i64 l) ∧ W.cell? ⟨g,2,none⟩ = some (.int .i64 r) ∧ W.cell? ⟨g,3,none⟩ = some (.int .i64 n) ∧ W.cell? ⟨g,4,none⟩ = some (.string tx) ∧ W.cell? ⟨g,5,none⟩ = some (.string un) ∧ W.cell? ⟨g,6,none⟩ = some (.int .i64 po) := by rw [← hW,← hg];simp
 have KS : Hid (∀ w' : World,Below W.heap.size W w' → (w'.cell? ⟨g,0,none⟩ = some (.int .i64 2) ∧ w'.cell? ⟨g,1,none⟩ = some (.int .i64 l) ∧ w'.cell? ⟨g,2,none⟩ = some (.int .i64 r) ∧ w'.cell? ⟨g,3,none⟩ = some (.int .i64 n) ∧ w'.cell? ⟨g,4,none⟩ = some (.string tx) ∧ w'.cell? ⟨g,5,none⟩ = some (.string un) ∧ w'.cell? ⟨g,6,none⟩ = some (.int .i64 po) ∧ Below W.heap.size W w')) := Lib.hid (fun w' h => by
  obtain ⟨p0,p1,p2,p3,p4,p5,p6⟩ := hcell
  have mv : ∀ (j : Nat) (u : Value),W.cell? ⟨g,j,none⟩ = some u → w'.cell? ⟨g,j,none⟩ = some u := fun j u hu => (h.cell (p := ⟨g,j,none⟩) (show g < W.heap.size by omega)).trans hu
  exact ⟨mv 0 _ p0,mv 1 _ p1,mv 2 _ p2,mv 3 _ p3,mv 4 _ p4,mv 5 _ p5,mv 6 _ p6,h⟩)
 have HS := Lib.hid hW
 have KF : Hid (∀ w : World,Calls Tryd.prog 83 #[.agg #[.int .i64 2,.int .i64 l,.int .i64 r,.int .i64 n,.string tx,.string un,.int .i64 po]] w fun e w' => e = .returned (.agg #[.int .i64 2,.int .i64 n,.string tx,.string un]) ∧ Below w.heap.size w w') := Lib.hid (fun w => tfaced_at 2 l r n po tx un w)
 have hBd : Below W.heap.size W W.drew := bl_drew (Below.refl _ _)
 clear hW hcell hG
 generalize h0 : ((n : Int) == 0 && un.toList == []) = q0
 generalize h1 : ((l : Int) == 0) = q1
 generalize h2 : ((r : Int) == 0) = q2
 generalize h3 : isName tx = q3
 have K4 : Hid (∀ w : World,Glob w → Calls Tryd.prog 19 #[.string tx] w fun e w' => e = .returned (.bool q3) ∧ w = w') := Lib.hid (fun w hG => by rw [← h3];exact isName_any tx w ht hG)
 have hE : ∀ (d : Nat) (w : World),(Op.equalIn (d + 2) 109 (.agg #[.int .i64 2,.int .i64 n,.string tx,.string un]) (.agg #[.int .i64 2,.int .i64 0,.string tx,.string ⟨#[]⟩])).run Tryd.prog w = .ok q0 w := fun d w => by
  rw [eqFace,← h0,show (⟨#[]⟩ : ByteArray).toList = [] from by rw [Lib.toList_data]];simp
 clear h0 h3
 rcases (show q0 = false ∨ (q0 = true ∧ q1 = false) ∨ (q0 = true ∧ q1 = true ∧ q2 = false) ∨ (q0 = true ∧ q1 = true ∧ q2 = true) from by cases q0 <;> cases q1 <;> cases q2 <;> simp) with rfl | ⟨rfl,rfl⟩ | ⟨rfl,rfl,rfl⟩ | ⟨rfl,rfl,rfl⟩
 all_goals
  go_enter Tryd.func64,Tryd.ntmps64
  go_wp2_with fail
  rw [HS.out]
  obtain ⟨p0,p1,p2,p3,p4,p5,p6,_⟩ := KS.out W (Below.refl _ _)
  go_wp2_with fail
  clear p0 p1 p2 p3 p4 p5 p6
  refine start_ (n := 17) (S := fun w' => w'.cell? ⟨g,0,none⟩ = some (.int .i64 2) ∧ w'.cell? ⟨g,1,none⟩ = some (.int .i64 l) ∧ w'.cell? ⟨g,2,none⟩ = some (.int .i64 r) ∧ w'.cell? ⟨g,3,none⟩ = some (.int .i64 n) ∧ w'.cell? ⟨g,4,none⟩ = some (.string tx) ∧ w'.cell? ⟨g,5,none⟩ = some (.string un) ∧ w'.cell? ⟨g,6,none⟩ = some (.int .i64 po) ∧ Below W.heap.size W w') (ds := []) #[false,false,false,false,false,false,false,false,false,false,false,false,false,false,false,false,false] (by kernel_rfl) rfl rfl (KS.out _ hBd) (fun hHeld => ?_)
  refine with_tabW tbegin_tab7 tbegin_bits7 (fun HT_ HW_ => ?_)
  refine pure_ (i := 2) (N := (some 51)) (v := ?_) (a' := ?_) #[false,false,true,false,false,false,false,false,false,false,false,false,false,false,false,false,false] rfl rfl (any_of HT_.out (by kernel_rfl)) (fun _ _ _ h => h) (Or.inl ⟨by rfl,?_⟩) ?_ ?_
  rotate_left
  ·intro w'
   go_simp
   with_reducible rfl
  rotate_left
  ·simp only [Act.put,zYTrBa,zYTrBb,zYTrBc]
   rfl
  refine take_ (i := 0) (N := (some 49)) (v := ?_) (a' := ?_) #[true,false,true,false,false,false,false,false,false,false,false,false,false,false,false,false,false] rfl rfl (take_ofW HT_.out HW_.out (by kernel_rfl)) (fun _ _ _ h => h) (Or.inl ⟨by rfl,?_⟩) hHeld ?_ ?_
  rotate_left
  ·rintro w' ⟨s0,s1,s2,s3,s4,s5,s6,_⟩
   go_simp
   with_reducible rfl
  rotate_left
  ·simp only [Act.put,zYTrBa,zYTrBb,zYTrBc]
   rfl
  refine take_ (i := 3) (N := (some 52)) (v := ?_) (a' := ?_) #[true,false,true,true,false,false,false,false,false,false,false,false,false,false,false,false,false] rfl rfl (take_ofW HT_.out HW_.out (by kernel_rfl)) (fun _ _ _ h => h) (Or.inl ⟨by rfl,?_⟩) hHeld ?_ ?_
  rotate_left
  ·rintro w' ⟨s0,s1,s2,s3,s4,s5,s6,_⟩
   go_simp
   with_reducible rfl
  rotate_left
  ·simp only [Act.put,zYTrBa,zYTrBb,zYTrBc]
   rfl
  refine pure_ (i := 4) (N := (some 53)) (v := ?_) (a' := ?_) #[true,false,true,true,true,false,false,false,false,false,false,false,false,false,false,false,false] rfl rfl (any_of HT_.out (by kernel_rfl)) (fun _ _ _ h => h) (Or.inl ⟨by rfl,?_⟩) ?_ ?_
  rotate_left
  ·intro w'
   go_simp
   with_reducible rfl
  rotate_left
  ·simp only [Act.put,zYTrBa,zYTrBb,zYTrBc]
   rfl
  refine one_ (i := 1) (N := (some 50)) #[true,true,true,true,true,false,false,false,false,false,false,false,false,false,false,false,false] rfl rfl (one_of HT_.out (by kernel_rfl)) (by decide) (fun K hK => ?_)
  refine goes_ Tryd.func83 (by kernel_rfl) rfl #[.agg #[.int .i64 2,.int .i64 l,.int .i64 r,.int .i64 n,.string tx,.string un,.int .i64 po]] (by rfl) rfl rfl (by (try simp only [List.map_toArray,List.map_cons,List.map_nil]);first | done | rfl) ?_
  (with_reducible refine (KF.out _).mono ?_)
  rintro e w1 ⟨rfl,hb1⟩
  refine ⟨_,rfl,?_⟩
  have hB1 := bl_then hBd hb1
  refine hK.out _ _ (KS.out _ hB1) (fun hHeld => ?_)
  clear hK K
  refine norm_ (a' := ?_) ?_ ?_
  rotate_left
  ·show Act.put _ (some 50) _ = _
   simp only [Act.put,zYTrBa,zYTrBb,zYTrBc]
   rfl
  refine pure_ (i := 5) (N := (some 54)) (v := ?_) (a' := ?_) #[true,true,true,true,true,true,false,false,false,false,false,false,false,false,false,false,false] rfl rfl (any_of HT_.out (by kernel_rfl)) (fun _ _ _ h => h) (Or.inl ⟨by rfl,?_⟩) ?_ ?_
  rotate_left
  ·intro w'
   go_simp
   with_reducible rfl
  rotate_left
  ·simp only [Act.put,zYTrBa,zYTrBb,zYTrBc]
   rfl
  refine pure_ (i := 6) (N := (some 55)) (v := ?_) (a' := ?_) #[true,true,true,true,true,true,true,false,false,false,false,false,false,false,false,false,false] rfl rfl (any_of HT_.out (by kernel_rfl)) (fun _ _ _ h => h) (Or.inl ⟨by rfl,?_⟩) ?_ ?_
  rotate_left
  ·intro w'
   go_simp
   with_reducible rfl
  rotate_left
  ·simp only [Act.put,zYTrBa,zYTrBb,zYTrBc]
   rfl
  first
  |(refine pure_ (i := 7) (N := (some 56)) (v := ?_) (a' := ?_) #[true,true,true,true,true,true,true,true,false,false,false,false,false,false,false,false,false] rfl rfl (any_of HT_.out (by kernel_rfl)) (fun _ _ _ h => h) (Or.inl ⟨by rfl,?_⟩) ?_ ?_
    rotate_left
    ·intro w'
     go_simp
     with_reducible rfl
    rotate_left
    ·simp only [Act.put,zYTrBa,zYTrBb,zYTrBc]
     rfl)
  |(refine pure_ (i := 7) (N := (some 56)) (v := undef) (a' := ?_) #[true,true,true,true,true,true,true,true,false,false,false,false,false,false,false,false,false] rfl rfl (any_of HT_.out (by kernel_rfl)) (fun _ _ _ h => h) (Or.inr ⟨by rfl,rfl⟩) ?_ ?_
    rotate_left
    ·simp only [Act.put,zYTrBa,zYTrBb,zYTrBc]
     rfl)
  first
  |(refine take_ (i := 8) (N := (some 57)) (v := ?_) (a' := ?_) #[true,true,true,true,true,true,true,true,true,false,false,false,false,false,false,false,false] rfl rfl (take_ofW HT_.out HW_.out (by kernel_rfl)) (fun _ _ _ h => h) (Or.inl ⟨by rfl,?_⟩) hHeld ?_ ?_
    rotate_left
    ·rintro w' ⟨s0,s1,s2,s3,s4,s5,s6,_⟩
     go_simp
     with_reducible rfl
    rotate_left
    ·simp only [Act.put,zYTrBa,zYTrBb,zYTrBc]
     rfl)
  |(refine pure_ (i := 8) (N := (some 57)) (v := undef) (a' := ?_) #[true,true,true,true,true,true,true,true,true,false,false,false,false,false,false,false,false] rfl rfl (any_of HT_.out (by kernel_rfl)) (fun _ _ _ h => h) (Or.inr ⟨by rfl,rfl⟩) ?_ ?_
    rotate_left
    ·simp only [Act.put,zYTrBa,zYTrBb,zYTrBc]
     rfl)
  first
  |(refine pure_ (i := 9) (N := (some 58)) (v := ?_) (a' := ?_) #[true,true,true,true,true,true,true,true,true,true,false,false,false,false,false,false,false] rfl rfl (any_of HT_.out (by kernel_rfl)) (fun _ _ _ h => h) (Or.inl ⟨by rfl,?_⟩) ?_ ?_
    rotate_left
    ·intro w'
     go_simp
     with_reducible rfl
    rotate_left
    ·simp only [Act.put,zYTrBa,zYTrBb,zYTrBc]
     rfl)
  |(refine pure_ (i := 9) (N := (some 58)) (v := undef) (a' := ?_) #[true,true,true,true,true,true,true,true,true,true,false,false,false,false,false,false,false] rfl rfl (any_of HT_.out (by kernel_rfl)) (fun _ _ _ h => h) (Or.inr ⟨by rfl,rfl⟩) ?_ ?_
    rotate_left
    ·simp only [Act.put,zYTrBa,zYTrBb,zYTrBc]
     rfl)
  refine pure_ (i := 10) (N := (some 59)) (v := ?_) (a' := ?_) #[true,true,true,true,true,true,true,true,true,true,true,false,false,false,false,false,false] rfl rfl (any_of HT_.out (by kernel_rfl)) (fun _ _ _ h => h) (Or.inl ⟨by rfl,?_⟩) ?_ ?_
  rotate_left
  ·intro w'
   go_simp
   with_reducible rfl
  rotate_left
  ·simp only [Act.put,zYTrBa,zYTrBb,zYTrBc]
   rfl
  refine pure_ (i := 11) (N := (some 60)) (v := ?_) (a' := ?_) #[true,true,true,true,true,true,true,true,true,true,true,true,false,false,false,false,false] rfl rfl (any_of HT_.out (by kernel_rfl)) (fun _ _ _ h => h) (Or.inl ⟨by rfl,?_⟩) ?_ ?_
  rotate_left
  ·intro w'
   go_simp
   with_reducible rfl
  rotate_left
  ·simp only [Act.put,zYTrBa,zYTrBb,zYTrBc]
   rfl
  first
  |(refine pure_ (i := 12) (N := (some 61)) (v := ?_) (a' := ?_) #[true,true,true,true,true,true,true,true,true,true,true,true,true,false,false,false,false] rfl rfl (any_of HT_.out (by kernel_rfl)) (fun _ _ _ h => h) (Or.inl ⟨by rfl,?_⟩) ?_ ?_
    rotate_left
    ·intro w'
     go_simp
     with_reducible rfl
    rotate_left
    ·simp only [Act.put,zYTrBa,zYTrBb,zYTrBc]
     rfl)
  |(refine pure_ (i := 12) (N := (some 61)) (v := undef) (a' := ?_) #[true,true,true,true,true,true,true,true,true,true,true,true,true,false,false,false,false] rfl rfl (any_of HT_.out (by kernel_rfl)) (fun _ _ _ h => h) (Or.inr ⟨by rfl,rfl⟩) ?_ ?_
    rotate_left
    ·simp only [Act.put,zYTrBa,zYTrBb,zYTrBc]
     rfl)
  first
  |(refine take_ (i := 13) (N := (some 62)) (v := ?_) (a' := ?_) #[true,true,true,true,true,true,true,true,true,true,true,true,true,true,false,false,false] rfl rfl (take_ofW HT_.out HW_.out (by kernel_rfl)) (fun _ _ _ h => h) (Or.inl ⟨by rfl,?_⟩) hHeld ?_ ?_
    rotate_left
    ·rintro w' ⟨s0,s1,s2,s3,s4,s5,s6,_⟩
     go_simp
     with_reducible rfl
    rotate_left
    ·simp only [Act.put,zYTrBa,zYTrBb,zYTrBc]
     rfl)
  |(refine pure_ (i := 13) (N := (some 62)) (v := undef) (a' := ?_) #[true,true,true,true,true,true,true,true,true,true,true,true,true,true,false,false,false] rfl rfl (any_of HT_.out (by kernel_rfl)) (fun _ _ _ h => h) (Or.inr ⟨by rfl,rfl⟩) ?_ ?_
    rotate_left
    ·simp only [Act.put,zYTrBa,zYTrBb,zYTrBc]
     rfl)
  first
  |(refine pure_ (i := 14) (N := (some 63)) (v := ?_) (a' := ?_) #[true,true,true,true,true,true,true,true,true,true,true,true,true,true,true,false,false] rfl rfl (any_of HT_.out (by kernel_rfl)) (fun _ _ _ h => h) (Or.inl ⟨by rfl,?_⟩) ?_ ?_
    rotate_left
    ·intro w'
     go_simp
     with_reducible rfl
    rotate_left
    ·simp only [Act.put,zYTrBa,zYTrBb,zYTrBc]
     rfl)
  |(refine pure_ (i := 14) (N := (some 63)) (v := undef) (a' := ?_) #[true,true,true,true,true,true,true,true,true,true,true,true,true,true,true,false,false] rfl rfl (any_of HT_.out (by kernel_rfl)) (fun _ _ _ h => h) (Or.inr ⟨by rfl,rfl⟩) ?_ ?_
    rotate_left
    ·simp only [Act.put,zYTrBa,zYTrBb,zYTrBc]
     rfl)
  refine pure_ (i := 15) (N := (some 64)) (v := ?_) (a' := ?_) #[true,true,true,true,true,true,true,true,true,true,true,true,true,true,true,true,false] rfl rfl (any_of HT_.out (by kernel_rfl)) (fun _ _ _ h => h) (Or.inl ⟨by rfl,?_⟩) ?_ ?_
  rotate_left
  ·intro w'
   go_simp
   with_reducible rfl
  rotate_left
  ·simp only [Act.put,zYTrBa,zYTrBb,zYTrBc]
   rfl
  refine pure_ (i := 16) (N := (some 8)) (v := ?_) (a' := ?_) #[true,true,true,true,true,true,true,true,true,true,true,true,true,true,true,true,true] rfl rfl (any_of HT_.out (by kernel_rfl)) (fun _ _ _ h => h) (Or.inl ⟨by rfl,?_⟩) ?_ ?_
  rotate_left
  ·intro w'
   go_simp
   with_reducible rfl
  rotate_left
  ·simp only [Act.put,zYTrBa,zYTrBb,zYTrBc]
   rfl
  refine done_ (done_of HT_.out (by kernel_rfl)) ?_
  obtain ⟨p0,p1,p2,p3,p4,p5,p6,hB2⟩ := KS.out w1 hB1
  have G1 := GG.out _ hB1
  have HB2 := Lib.hid (HBW.out.trans (hB2.mono HBW.out.size))
  go_wp2_with (first | (go_at_call 19;(with_reducible refine (K4.out _ G1).mono ?_);rintro e w' ⟨rfl,rfl⟩))
  exact bodyPost_ret (v := .tuple #[.int .i64 m,.bool _]) (by simp [results,Tryd.results64,go_sem]) rfl ⟨rfl,by first | exact HB2.out | (rw [← hg];exact HB2.out)⟩
set_option maxRecDepth 20000 in
set_option maxHeartbeats 8000000 in
theorem tbegin_none (kd l r n po : Int) (tx un : ByteArray) (A : Option Addr) (m c : Nat) (w : World) (hk : kd < 1 ∨ 8 < kd) (hG : Glob w) :
 Calls Tryd.prog 64 #[.agg #[.int .i64 kd,.int .i64 l,.int .i64 r,.int .i64 n,.string tx,.string un,.int .i64 po],.slice A m c] w fun e w' => e = .returned (.tuple #[.int .i64 0,.bool false]) ∧ Below w.heap.size w w' := by
 obtain ⟨g,hg⟩ : ∃ g,w.heap.size = g := ⟨_,rfl⟩
 obtain ⟨W,hW⟩ : ∃ W,w.alloc (.cells #[.int .i64 kd,.int .i64 l,.int .i64 r,.int .i64 n,.string tx,.string un,.int .i64 po] 52) = W := ⟨_,rfl⟩
 have s1 : W.heap.size = g + 1 := by rw [← hW,← hg];simp
 have HBW : Hid (Below w.heap.size w W) := Lib.hid (by rw [← hW];exact alloc_keep _ _)
 have GG : Hid (∀ w' : World,Below W.heap.size W w' → Glob w') := Lib.hid (fun w' h => (hG.below HBW.out).below h)
 have hcell : W.cell? ⟨g,0,none⟩ = some (.int .i64 kd) ∧ W.cell? ⟨g,1,none⟩ = some (.int .i64 l) ∧ W.cell? ⟨g,2,none⟩ = some (.int .i64 r) ∧ W.cell? ⟨g,3,none⟩ = some (.int .i64 n) ∧ W.cell? ⟨g,4,none⟩ = some (.string tx) ∧ W.cell? ⟨g,5,none⟩ = some (.string un) ∧ W.cell? ⟨g,6,none⟩ = some (.int .i64 po) := by rw [← hW,← hg];simp
 have KS : Hid (∀ w' : World,Below W.heap.size W w' → (w'.cell? ⟨g,0,none⟩ = some (.int .i64 kd) ∧ w'.cell? ⟨g,1,none⟩ = some (.int .i64 l) ∧ w'.cell? ⟨g,2,none⟩ = some (.int .i64 r) ∧ w'.cell? ⟨g,3,none⟩ = some (.int .i64 n) ∧ w'.cell? ⟨g,4,none⟩ = some (.string tx) ∧ w'.cell? ⟨g,5,none⟩ = some (.string un) ∧ w'.cell? ⟨g,6,none⟩ = some (.int .i64 po) ∧ Below W.heap.size W w')) := Lib.hid (fun w' h => by
  obtain ⟨p0,p1,p2,p3,p4,p5,p6⟩ := hcell
  have mv : ∀ (j : Nat) (u : Value),W.cell? ⟨g,j,none⟩ = some u → w'.cell? ⟨g,j,none⟩ = some u := fun j u hu => (h.cell (p := ⟨g,j,none⟩) (show g < W.heap.size by omega)).trans hu
  exact ⟨mv 0 _ p0,mv 1 _ p1,mv 2 _ p2,mv 3 _ p3,mv 4 _ p4,mv 5 _ p5,mv 6 _ p6,h⟩)
 have HS := Lib.hid hW
 have KF : Hid (∀ w : World,Calls Tryd.prog 83 #[.agg #[.int .i64 kd,.int .i64 l,.int .i64 r,.int .i64 n,.string tx,.string un,.int .i64 po]] w fun e w' => e = .returned (.agg #[.int .i64 kd,.int .i64 n,.string tx,.string un]) ∧ Below w.heap.size w w') := Lib.hid (fun w => tfaced_at kd l r n po tx un w)
 have hBd : Below W.heap.size W W.drew := bl_drew (Below.refl _ _)
 clear hW hcell hG
 have k1 : ((kd : Int) == 1) = false := by rw [beq_eq_false_iff_ne];omega
 have k2 : ((kd : Int) == 2) = false := by rw [beq_eq_false_iff_ne];omega
 have k3 : ((kd : Int) == 3) = false := by rw [beq_eq_false_iff_ne];omega
 have k4 : ((kd : Int) == 4) = false := by rw [beq_eq_false_iff_ne];omega
 have k5 : ((kd : Int) == 5) = false := by rw [beq_eq_false_iff_ne];omega
 have k6 : ((kd : Int) == 6) = false := by rw [beq_eq_false_iff_ne];omega
 have k7 : ((kd : Int) == 7) = false := by rw [beq_eq_false_iff_ne];omega
 have k8 : ((kd : Int) == 8) = false := by rw [beq_eq_false_iff_ne];omega
 have HB2 := HBW
 clear hk
 go_enter Tryd.func64,Tryd.ntmps64
 go_wp2_with fail
 rw [HS.out]
 obtain ⟨p0,p1,p2,p3,p4,p5,p6,_⟩ := KS.out W (Below.refl _ _)
 go_wp2_with fail
 clear p0 p1 p2 p3 p4 p5 p6
 exact bodyPost_ret (v := .tuple #[.int .i64 0,.bool false]) (by simp [results,Tryd.results64,go_sem]) rfl ⟨rfl,by first | exact HB2.out | (rw [← hg];exact HB2.out)⟩
set_option maxRecDepth 20000 in
set_option maxHeartbeats 8000000 in
theorem tbegin_over7_no (l r n po : Int) (tx un : ByteArray) (A : Option Addr) (m c : Nat) (w : World) (hm : (m : Int) < 4611686018427387904) (hno : (m : Int) < 1 ∨ l ≠ (m : Int) - 1 ∨ r ≠ 0) (hG : Glob w) :
 Calls Tryd.prog 64 #[.agg #[.int .i64 7,.int .i64 l,.int .i64 r,.int .i64 n,.string tx,.string un,.int .i64 po],.slice A m c] w fun e w' => e = .returned (.tuple #[.int .i64 0,.bool false]) ∧ Below w.heap.size w w' := by
 obtain ⟨g,hg⟩ : ∃ g,w.heap.size = g := ⟨_,rfl⟩
 obtain ⟨W,hW⟩ : ∃ W,w.alloc (.cells #[.int .i64 7,.int .i64 l,.int .i64 r,.int .i64 n,.string tx,.string un,.int .i64 po] 52) = W := ⟨_,rfl⟩
 have s1 : W.heap.size = g + 1 := by rw [← hW,← hg];simp
 have HBW : Hid (Below w.heap.size w W) := Lib.hid (by rw [← hW];exact alloc_keep _ _)
 have GG : Hid (∀ w' : World,Below W.heap.size W w' → Glob w') := Lib.hid (fun w' h => (hG.below HBW.out).below h)
 have hcell : W.cell? ⟨g,0,none⟩ = some (.int .i64 7) ∧ W.cell? ⟨g,1,none⟩ = some (.int .i64 l) ∧ W.cell? ⟨g,2,none⟩ = some (.int .i64 r) ∧ W.cell? ⟨g,3,none⟩ = some (.int .i64 n) ∧ W.cell? ⟨g,4,none⟩ = some (.string tx) ∧ W.cell? ⟨g,5,none⟩ = some (.string un) ∧ W.cell? ⟨g,6,none⟩ = some (.int .i64 po) := by rw [← hW,← hg];simp
 have KS : Hid (∀ w' : World,Below W.heap.size W w' → (w'.cell? ⟨g,0,none⟩ = some (.int .i64 7) ∧ w'.cell? ⟨g,1,none⟩ = some (.int .i64 l) ∧ w'.cell? ⟨g,2,none⟩ = some (.int .i64 r) ∧ w'.cell? ⟨g,3,none⟩ = some (.int .i64 n) ∧ w'.cell? ⟨g,4,none⟩ = some (.string tx) ∧ w'.cell? ⟨g,5,none⟩ = some (.string un) ∧ w'.cell? ⟨g,6,none⟩ = some (.int .i64 po) ∧ Below W.heap.size W w')) := Lib.hid (fun w' h => by
  obtain ⟨p0,p1,p2,p3,p4,p5,p6⟩ := hcell
  have mv : ∀ (j : Nat) (u : Value),W.cell? ⟨g,j,none⟩ = some u → w'.cell? ⟨g,j,none⟩ = some u := fun j u hu => (h.cell (p := ⟨g,j,none⟩) (show g < W.heap.size by omega)).trans hu
  exact ⟨mv 0 _ p0,mv 1 _ p1,mv 2 _ p2,mv 3 _ p3,mv 4 _ p4,mv 5 _ p5,mv 6 _ p6,h⟩)
 have HS := Lib.hid hW
 have KF : Hid (∀ w : World,Calls Tryd.prog 83 #[.agg #[.int .i64 7,.int .i64 l,.int .i64 r,.int .i64 n,.string tx,.string un,.int .i64 po]] w fun e w' => e = .returned (.agg #[.int .i64 7,.int .i64 n,.string tx,.string un]) ∧ Below w.heap.size w w') := Lib.hid (fun w => tfaced_at 7 l r n po tx un w)
 have hBd : Below W.heap.size W W.drew := bl_drew (Below.refl _ _)
 clear hW hcell hG
 have hw : IntKind.i64.wrap ((m : Int) - 1) = (m : Int) - 1 := by rw [IntKind.wrap_i64];omega
 have HB2 := HBW
 generalize h0 : decide ((m : Int) < 1) = q0
 generalize h1 : ((l : Int) != (m : Int) - 1) = q1
 generalize h2 : ((r : Int) != 0) = q2
 have hq : q0 = true ∨ q1 = true ∨ q2 = true := by
  rw [← h0,← h1,← h2];rcases hno with h | h | h
  ·exact .inl (decide_eq_true h)
  ·exact .inr (.inl (bne_iff_ne.mpr h))
  ·exact .inr (.inr (bne_iff_ne.mpr h))
 clear hno
 rcases (show q0 = true ∨ (q0 = false ∧ q1 = true) ∨ (q0 = false ∧ q1 = false ∧ q2 = true) from by revert hq;cases q0 <;> cases q1 <;> cases q2 <;> simp) with rfl | ⟨rfl,rfl⟩ | ⟨rfl,rfl,rfl⟩
 all_goals
  go_enter Tryd.func64,Tryd.ntmps64
  go_wp2_with fail
  rw [HS.out]
  obtain ⟨p0,p1,p2,p3,p4,p5,p6,_⟩ := KS.out W (Below.refl _ _)
  go_wp2_with fail
  clear p0 p1 p2 p3 p4 p5 p6
  exact bodyPost_ret (v := .tuple #[.int .i64 0,.bool false]) (by simp [results,Tryd.results64,go_sem]) rfl ⟨rfl,by first | exact HB2.out | (rw [← hg];exact HB2.out)⟩
set_option maxRecDepth 20000 in
set_option maxHeartbeats 8000000 in
theorem tbegin_over7 (l r n po : Int) (tx un : ByteArray) (ad : Addr) (m c : Nat) (ev : Int) (w : World) (hm : (m : Int) < 4611686018427387904) (hl : l = (m : Int) - 1) (h1 : 1 ≤ (m : Int)) (hr : r = 0) (hx : w.cell? (ad.add l.toNat) = some (.int .i64 ev)) (hG : Glob w) :
 Calls Tryd.prog 64 #[.agg #[.int .i64 7,.int .i64 l,.int .i64 r,.int .i64 n,.string tx,.string un,.int .i64 po],.slice (some ad) m c] w fun e w' => e = .returned (.tuple #[.int .i64 ev,.bool ((tx.toList == [] && un.toList == []) && ((n == 0) && (decide (-64 ≤ mn n 0) && decide (n ≤ 64))))]) ∧ Below w.heap.size w w' := by
 obtain ⟨g,hg⟩ : ∃ g,w.heap.size = g := ⟨_,rfl⟩
 obtain ⟨W,hW⟩ : ∃ W,w.alloc (.cells #[.int .i64 7,.int .i64 l,.int .i64 r,.int .i64 n,.string tx,.string un,.int .i64 po] 52) = W := ⟨_,rfl⟩
 have s1 : W.heap.size = g + 1 := by rw [← hW,← hg];simp
 have HBW : Hid (Below w.heap.size w W) := Lib.hid (by rw [← hW];exact alloc_keep _ _)
 have GG : Hid (∀ w' : World,Below W.heap.size W w' → Glob w') := Lib.hid (fun w' h => (hG.below HBW.out).below h)
 have hcell : W.cell? ⟨g,0,none⟩ = some (.int .i64 7) ∧ W.cell? ⟨g,1,none⟩ = some (.int .i64 l) ∧ W.cell? ⟨g,2,none⟩ = some (.int .i64 r) ∧ W.cell? ⟨g,3,none⟩ = some (.int .i64 n) ∧ W.cell? ⟨g,4,none⟩ = some (.string tx) ∧ W.cell? ⟨g,5,none⟩ = some (.string un) ∧ W.cell? ⟨g,6,none⟩ = some (.int .i64 po) := by rw [← hW,← hg];simp
 have hel : W.cell? (ad.add l.toNat) = some (.int .i64 ev) := (HBW.out.cell (World.block_lt_of_cell? _ _ hx)).trans hx
 have KS : Hid (∀ w' : World,Below W.heap.size W w' → (w'.cell? ⟨g,0,none⟩ = some (.int .i64 7) ∧ w'.cell? ⟨g,1,none⟩ = some (.int .i64 l) ∧ w'.cell? ⟨g,2,none⟩ = some (.int .i64 r) ∧ w'.cell? ⟨g,3,none⟩ = some (.int .i64 n) ∧ w'.cell? ⟨g,4,none⟩ = some (.string tx) ∧ w'.cell? ⟨g,5,none⟩ = some (.string un) ∧ w'.cell? ⟨g,6,none⟩ = some (.int .i64 po) ∧ w'.cell? (ad.add l.toNat) = some (.int .i64 ev) ∧ Below W.heap.size W w')) := Lib.hid (fun w' h => by
  obtain ⟨p0,p1,p2,p3,p4,p5,p6⟩ := hcell
  have mv : ∀ (j : Nat) (u : Value),W.cell? ⟨g,j,none⟩ = some u → w'.cell? ⟨g,j,none⟩ = some u := fun j u hu => (h.cell (p := ⟨g,j,none⟩) (show g < W.heap.size by omega)).trans hu
  exact ⟨mv 0 _ p0,mv 1 _ p1,mv 2 _ p2,mv 3 _ p3,mv 4 _ p4,mv 5 _ p5,mv 6 _ p6,(h.cell (World.block_lt_of_cell? _ _ hel)).trans hel,h⟩)
 have HS := Lib.hid hW
 have KF : Hid (∀ w : World,Calls Tryd.prog 83 #[.agg #[.int .i64 7,.int .i64 l,.int .i64 r,.int .i64 n,.string tx,.string un,.int .i64 po]] w fun e w' => e = .returned (.agg #[.int .i64 7,.int .i64 n,.string tx,.string un]) ∧ Below w.heap.size w w') := Lib.hid (fun w => tfaced_at 7 l r n po tx un w)
 have hBd : Below W.heap.size W W.drew := bl_drew (Below.refl _ _)
 clear hW hcell hG hel hx
 have hw : IntKind.i64.wrap ((m : Int) - 1) = (m : Int) - 1 := by rw [IntKind.wrap_i64];omega
 have f0 : decide ((m : Int) < 1) = false := decide_eq_false (by omega)
 have f1 : ((l : Int) != (m : Int) - 1) = false := by rw [hl];simp
 have f2 : ((r : Int) != 0) = false := by rw [hr];rfl
 have pl : (0 ≤ l) = True := eq_true (by omega)
 have ql : (l < (m : Int)) = True := eq_true (by omega)
 generalize h0 : (tx.toList == [] && un.toList == []) = q0
 generalize hq1 : ((n : Int) == 0) = q1
 unfold mn
 generalize hmn : (if (0 : Int) < n then (0 : Int) else n) = z
 generalize h2 : decide (-64 ≤ z) = q2
 generalize h3 : decide (n ≤ 64) = q3
 have hE : ∀ (d : Nat) (w : World),(Op.equalIn (d + 2) 109 (.agg #[.int .i64 7,.int .i64 n,.string tx,.string un]) (.agg #[.int .i64 7,.int .i64 n,.string ⟨#[]⟩,.string ⟨#[]⟩])).run Tryd.prog w = .ok q0 w := fun d w => by
  rw [eqFace,← h0,show (⟨#[]⟩ : ByteArray).toList = [] from by rw [Lib.toList_data]];simp
 clear h0 hl hr h1 hm
 rcases (show q0 = false ∨ (q0 = true ∧ q1 = false) ∨ (q0 = true ∧ q1 = true ∧ q2 = false) ∨ (q0 = true ∧ q1 = true ∧ q2 = true) from by cases q0 <;> cases q1 <;> cases q2 <;> simp) with rfl | ⟨rfl,rfl⟩ | ⟨rfl,rfl,rfl⟩ | ⟨rfl,rfl,rfl⟩
 all_goals
  go_enter Tryd.func64,Tryd.ntmps64
  go_wp2_with fail
  rw [HS.out]
  obtain ⟨p0,p1,p2,p3,p4,p5,p6,p7,_⟩ := KS.out W (Below.refl _ _)
  go_wp2_with fail
  clear p0 p1 p2 p3 p4 p5 p6 p7
  refine start_ (n := 19) (S := fun w' => w'.cell? ⟨g,0,none⟩ = some (.int .i64 7) ∧ w'.cell? ⟨g,1,none⟩ = some (.int .i64 l) ∧ w'.cell? ⟨g,2,none⟩ = some (.int .i64 r) ∧ w'.cell? ⟨g,3,none⟩ = some (.int .i64 n) ∧ w'.cell? ⟨g,4,none⟩ = some (.string tx) ∧ w'.cell? ⟨g,5,none⟩ = some (.string un) ∧ w'.cell? ⟨g,6,none⟩ = some (.int .i64 po) ∧ w'.cell? (ad.add l.toNat) = some (.int .i64 ev) ∧ Below W.heap.size W w') (ds := []) #[false,false,false,false,false,false,false,false,false,false,false,false,false,false,false,false,false,false,false] (by kernel_rfl) rfl rfl (KS.out _ hBd) (fun hHeld => ?_)
  refine with_tabW tbegin_tab14 tbegin_bits14 (fun HT_ HW_ => ?_)
  refine pure_ (i := 2) (N := (some 94)) (v := ?_) (a' := ?_) #[false,false,true,false,false,false,false,false,false,false,false,false,false,false,false,false,false,false,false] rfl rfl (any_of HT_.out (by kernel_rfl)) (fun _ _ _ h => h) (Or.inl ⟨by rfl,?_⟩) ?_ ?_
  rotate_left
  ·intro w'
   go_simp
   with_reducible rfl
  rotate_left
  ·simp only [Act.put,zYTrBa,zYTrBb,zYTrBc]
   rfl
  refine pure_ (i := 4) (N := (some 96)) (v := ?_) (a' := ?_) #[false,false,true,false,true,false,false,false,false,false,false,false,false,false,false,false,false,false,false] rfl rfl (any_of HT_.out (by kernel_rfl)) (fun _ _ _ h => h) (Or.inl ⟨by rfl,?_⟩) ?_ ?_
  rotate_left
  ·intro w'
   go_simp
   with_reducible rfl
  rotate_left
  ·simp only [Act.put,zYTrBa,zYTrBb,zYTrBc]
   rfl
  refine take_ (i := 0) (N := (some 92)) (v := ?_) (a' := ?_) #[true,false,true,false,true,false,false,false,false,false,false,false,false,false,false,false,false,false,false] rfl rfl (take_ofW HT_.out HW_.out (by kernel_rfl)) (fun _ _ _ h => h) (Or.inl ⟨by rfl,?_⟩) hHeld ?_ ?_
  rotate_left
  ·rintro w' ⟨s0,s1,s2,s3,s4,s5,s6,s7,_⟩
   go_simp
   with_reducible rfl
  rotate_left
  ·simp only [Act.put,zYTrBa,zYTrBb,zYTrBc]
   rfl
  refine take_ (i := 3) (N := (some 95)) (v := ?_) (a' := ?_) #[true,false,true,true,true,false,false,false,false,false,false,false,false,false,false,false,false,false,false] rfl rfl (take_ofW HT_.out HW_.out (by kernel_rfl)) (fun _ _ _ h => h) (Or.inl ⟨by rfl,?_⟩) hHeld ?_ ?_
  rotate_left
  ·rintro w' ⟨s0,s1,s2,s3,s4,s5,s6,s7,_⟩
   go_simp
   with_reducible rfl
  rotate_left
  ·simp only [Act.put,zYTrBa,zYTrBb,zYTrBc]
   rfl
  refine take_ (i := 5) (N := (some 97)) (v := ?_) (a' := ?_) #[true,false,true,true,true,true,false,false,false,false,false,false,false,false,false,false,false,false,false] rfl rfl (take_ofW HT_.out HW_.out (by kernel_rfl)) (fun _ _ _ h => h) (Or.inl ⟨by rfl,?_⟩) hHeld ?_ ?_
  rotate_left
  ·rintro w' ⟨s0,s1,s2,s3,s4,s5,s6,s7,_⟩
   go_simp
   with_reducible rfl
  rotate_left
  ·simp only [Act.put,zYTrBa,zYTrBb,zYTrBc]
   rfl
  refine pure_ (i := 6) (N := (some 98)) (v := ?_) (a' := ?_) #[true,false,true,true,true,true,true,false,false,false,false,false,false,false,false,false,false,false,false] rfl rfl (any_of HT_.out (by kernel_rfl)) (fun _ _ _ h => h) (Or.inl ⟨by rfl,?_⟩) ?_ ?_
  rotate_left
  ·intro w'
   go_simp
   with_reducible rfl
  rotate_left
  ·simp only [Act.put,zYTrBa,zYTrBb,zYTrBc]
   rfl
  refine one_ (i := 1) (N := (some 93)) #[true,true,true,true,true,true,true,false,false,false,false,false,false,false,false,false,false,false,false] rfl rfl (one_of HT_.out (by kernel_rfl)) (by decide) (fun K hK => ?_)
  refine goes_ Tryd.func83 (by kernel_rfl) rfl #[.agg #[.int .i64 7,.int .i64 l,.int .i64 r,.int .i64 n,.string tx,.string un,.int .i64 po]] (by rfl) rfl rfl (by (try simp only [List.map_toArray,List.map_cons,List.map_nil]);first | done | rfl) ?_
  (with_reducible refine (KF.out _).mono ?_)
  rintro e w1 ⟨rfl,hb1⟩
  refine ⟨_,rfl,?_⟩
  have hB1 := bl_then hBd hb1
  refine hK.out _ _ (KS.out _ hB1) (fun hHeld => ?_)
  clear hK K
  refine norm_ (a' := ?_) ?_ ?_
  rotate_left
  ·show Act.put _ (some 93) _ = _
   simp only [Act.put,zYTrBa,zYTrBb,zYTrBc]
   rfl
  refine pure_ (i := 7) (N := (some 99)) (v := ?_) (a' := ?_) #[true,true,true,true,true,true,true,true,false,false,false,false,false,false,false,false,false,false,false] rfl rfl (any_of HT_.out (by kernel_rfl)) (fun _ _ _ h => h) (Or.inl ⟨by rfl,?_⟩) ?_ ?_
  rotate_left
  ·intro w'
   go_simp
   with_reducible rfl
  rotate_left
  ·simp only [Act.put,zYTrBa,zYTrBb,zYTrBc]
   rfl
  refine pure_ (i := 8) (N := (some 100)) (v := ?_) (a' := ?_) #[true,true,true,true,true,true,true,true,true,false,false,false,false,false,false,false,false,false,false] rfl rfl (any_of HT_.out (by kernel_rfl)) (fun _ _ _ h => h) (Or.inl ⟨by rfl,?_⟩) ?_ ?_
  rotate_left
  ·intro w'
   go_simp
   with_reducible rfl
  rotate_left
  ·simp only [Act.put,zYTrBa,zYTrBb,zYTrBc]
   rfl
  first
  |(refine pure_ (i := 9) (N := (some 101)) (v := ?_) (a' := ?_) #[true,true,true,true,true,true,true,true,true,true,false,false,false,false,false,false,false,false,false] rfl rfl (any_of HT_.out (by kernel_rfl)) (fun _ _ _ h => h) (Or.inl ⟨by rfl,?_⟩) ?_ ?_
    rotate_left
    ·intro w'
     go_simp
     with_reducible rfl
    rotate_left
    ·simp only [Act.put,zYTrBa,zYTrBb,zYTrBc]
     rfl)
  |(refine pure_ (i := 9) (N := (some 101)) (v := undef) (a' := ?_) #[true,true,true,true,true,true,true,true,true,true,false,false,false,false,false,false,false,false,false] rfl rfl (any_of HT_.out (by kernel_rfl)) (fun _ _ _ h => h) (Or.inr ⟨by rfl,rfl⟩) ?_ ?_
    rotate_left
    ·simp only [Act.put,zYTrBa,zYTrBb,zYTrBc]
     rfl)
  first
  |(refine take_ (i := 10) (N := (some 102)) (v := ?_) (a' := ?_) #[true,true,true,true,true,true,true,true,true,true,true,false,false,false,false,false,false,false,false] rfl rfl (take_ofW HT_.out HW_.out (by kernel_rfl)) (fun _ _ _ h => h) (Or.inl ⟨by rfl,?_⟩) hHeld ?_ ?_
    rotate_left
    ·rintro w' ⟨s0,s1,s2,s3,s4,s5,s6,s7,_⟩
     go_simp
     with_reducible rfl
    rotate_left
    ·simp only [Act.put,zYTrBa,zYTrBb,zYTrBc]
     rfl)
  |(refine pure_ (i := 10) (N := (some 102)) (v := undef) (a' := ?_) #[true,true,true,true,true,true,true,true,true,true,true,false,false,false,false,false,false,false,false] rfl rfl (any_of HT_.out (by kernel_rfl)) (fun _ _ _ h => h) (Or.inr ⟨by rfl,rfl⟩) ?_ ?_
    rotate_left
    ·simp only [Act.put,zYTrBa,zYTrBb,zYTrBc]
     rfl)
  first
  |(refine pure_ (i := 11) (N := (some 103)) (v := ?_) (a' := ?_) #[true,true,true,true,true,true,true,true,true,true,true,true,false,false,false,false,false,false,false] rfl rfl (any_of HT_.out (by kernel_rfl)) (fun _ _ _ h => h) (Or.inl ⟨by rfl,?_⟩) ?_ ?_
    rotate_left
    ·intro w'
     go_simp
     with_reducible rfl
    rotate_left
    ·simp only [Act.put,zYTrBa,zYTrBb,zYTrBc]
     rfl)
  |(refine pure_ (i := 11) (N := (some 103)) (v := undef) (a' := ?_) #[true,true,true,true,true,true,true,true,true,true,true,true,false,false,false,false,false,false,false] rfl rfl (any_of HT_.out (by kernel_rfl)) (fun _ _ _ h => h) (Or.inr ⟨by rfl,rfl⟩) ?_ ?_
    rotate_left
    ·simp only [Act.put,zYTrBa,zYTrBb,zYTrBc]
     rfl)
  first
  |(refine pure_ (i := 12) (N := (some 104)) (v := ?_) (a' := ?_) #[true,true,true,true,true,true,true,true,true,true,true,true,true,false,false,false,false,false,false] rfl rfl (any_of HT_.out (by kernel_rfl)) (fun _ _ _ h => h) (Or.inl ⟨by rfl,?_⟩) ?_ ?_
    rotate_left
    ·intro w'
     go_simp
     with_reducible rfl
    rotate_left
    ·simp only [Act.put,zYTrBa,zYTrBb,zYTrBc]
     rfl)
  |(refine pure_ (i := 12) (N := (some 104)) (v := undef) (a' := ?_) #[true,true,true,true,true,true,true,true,true,true,true,true,true,false,false,false,false,false,false] rfl rfl (any_of HT_.out (by kernel_rfl)) (fun _ _ _ h => h) (Or.inr ⟨by rfl,rfl⟩) ?_ ?_
    rotate_left
    ·simp only [Act.put,zYTrBa,zYTrBb,zYTrBc]
     rfl)
  first
  |(refine pure_ (i := 13) (N := (some 105)) (v := ?_) (a' := ?_) #[true,true,true,true,true,true,true,true,true,true,true,true,true,true,false,false,false,false,false] rfl rfl (any_of HT_.out (by kernel_rfl)) (fun _ _ _ h => h) (Or.inl ⟨by rfl,?_⟩) ?_ ?_
    rotate_left
    ·intro w'
     go_simp
     with_reducible rfl
    rotate_left
    ·simp only [Act.put,zYTrBa,zYTrBb,zYTrBc]
     rfl)
  |(refine pure_ (i := 13) (N := (some 105)) (v := undef) (a' := ?_) #[true,true,true,true,true,true,true,true,true,true,true,true,true,true,false,false,false,false,false] rfl rfl (any_of HT_.out (by kernel_rfl)) (fun _ _ _ h => h) (Or.inr ⟨by rfl,rfl⟩) ?_ ?_
    rotate_left
    ·simp only [Act.put,zYTrBa,zYTrBb,zYTrBc]
     rfl)
  first
  |(refine take_ (i := 14) (N := (some 106)) (v := ?_) (a' := ?_) #[true,true,true,true,true,true,true,true,true,true,true,true,true,true,true,false,false,false,false] rfl rfl (take_ofW HT_.out HW_.out (by kernel_rfl)) (fun _ _ _ h => h) (Or.inl ⟨by rfl,?_⟩) hHeld ?_ ?_
    rotate_left
    ·rintro w' ⟨s0,s1,s2,s3,s4,s5,s6,s7,_⟩
     go_simp
     with_reducible rfl
    rotate_left
    ·simp only [Act.put,zYTrBa,zYTrBb,zYTrBc]
     rfl)
  |(refine pure_ (i := 14) (N := (some 106)) (v := undef) (a' := ?_) #[true,true,true,true,true,true,true,true,true,true,true,true,true,true,true,false,false,false,false] rfl rfl (any_of HT_.out (by kernel_rfl)) (fun _ _ _ h => h) (Or.inr ⟨by rfl,rfl⟩) ?_ ?_
    rotate_left
    ·simp only [Act.put,zYTrBa,zYTrBb,zYTrBc]
     rfl)
  first
  |(refine pure_ (i := 15) (N := (some 107)) (v := ?_) (a' := ?_) #[true,true,true,true,true,true,true,true,true,true,true,true,true,true,true,true,false,false,false] rfl rfl (any_of HT_.out (by kernel_rfl)) (fun _ _ _ h => h) (Or.inl ⟨by rfl,?_⟩) ?_ ?_
    rotate_left
    ·intro w'
     go_simp
     with_reducible rfl
    rotate_left
    ·simp only [Act.put,zYTrBa,zYTrBb,zYTrBc]
     rfl)
  |(refine pure_ (i := 15) (N := (some 107)) (v := undef) (a' := ?_) #[true,true,true,true,true,true,true,true,true,true,true,true,true,true,true,true,false,false,false] rfl rfl (any_of HT_.out (by kernel_rfl)) (fun _ _ _ h => h) (Or.inr ⟨by rfl,rfl⟩) ?_ ?_
    rotate_left
    ·simp only [Act.put,zYTrBa,zYTrBb,zYTrBc]
     rfl)
  first
  |(refine pure_ (i := 16) (N := (some 108)) (v := ?_) (a' := ?_) #[true,true,true,true,true,true,true,true,true,true,true,true,true,true,true,true,true,false,false] rfl rfl (any_of HT_.out (by kernel_rfl)) (fun _ _ _ h => h) (Or.inl ⟨by rfl,?_⟩) ?_ ?_
    rotate_left
    ·intro w'
     go_simp
     with_reducible rfl
    rotate_left
    ·simp only [Act.put,zYTrBa,zYTrBb,zYTrBc]
     rfl)
  |(refine pure_ (i := 16) (N := (some 108)) (v := undef) (a' := ?_) #[true,true,true,true,true,true,true,true,true,true,true,true,true,true,true,true,true,false,false] rfl rfl (any_of HT_.out (by kernel_rfl)) (fun _ _ _ h => h) (Or.inr ⟨by rfl,rfl⟩) ?_ ?_
    rotate_left
    ·simp only [Act.put,zYTrBa,zYTrBb,zYTrBc]
     rfl)
  refine pure_ (i := 17) (N := (some 109)) (v := ?_) (a' := ?_) #[true,true,true,true,true,true,true,true,true,true,true,true,true,true,true,true,true,true,false] rfl rfl (any_of HT_.out (by kernel_rfl)) (fun _ _ _ h => h) (Or.inl ⟨by rfl,?_⟩) ?_ ?_
  rotate_left
  ·intro w'
   go_simp
   with_reducible rfl
  rotate_left
  ·simp only [Act.put,zYTrBa,zYTrBb,zYTrBc]
   rfl
  refine pure_ (i := 18) (N := (some 10)) (v := ?_) (a' := ?_) #[true,true,true,true,true,true,true,true,true,true,true,true,true,true,true,true,true,true,true] rfl rfl (any_of HT_.out (by kernel_rfl)) (fun _ _ _ h => h) (Or.inl ⟨by rfl,?_⟩) ?_ ?_
  rotate_left
  ·intro w'
   go_simp
   with_reducible rfl
  rotate_left
  ·simp only [Act.put,zYTrBa,zYTrBb,zYTrBc]
   rfl
  refine done_ (done_of HT_.out (by kernel_rfl)) ?_
  obtain ⟨p0,p1,p2,p3,p4,p5,p6,p7,hB2⟩ := KS.out w1 hB1
  clear p0 p1 p2 p3 p4 p5 p6 p7
  go_wp2_with fail
  have hBe : Below W.heap.size W w1.drew := bl_drew hB1
  refine start_ (n := 17) (S := fun w' => w'.cell? ⟨g,0,none⟩ = some (.int .i64 7) ∧ w'.cell? ⟨g,1,none⟩ = some (.int .i64 l) ∧ w'.cell? ⟨g,2,none⟩ = some (.int .i64 r) ∧ w'.cell? ⟨g,3,none⟩ = some (.int .i64 n) ∧ w'.cell? ⟨g,4,none⟩ = some (.string tx) ∧ w'.cell? ⟨g,5,none⟩ = some (.string un) ∧ w'.cell? ⟨g,6,none⟩ = some (.int .i64 po) ∧ w'.cell? (ad.add l.toNat) = some (.int .i64 ev) ∧ Below W.heap.size W w') (ds := []) #[false,false,false,false,false,false,false,false,false,false,false,false,false,false,false,false,false] (by kernel_rfl) rfl rfl (KS.out _ hBe) (fun hHeld => ?_)
  refine with_tabW tbegin_tab15 tbegin_bits15 (fun HT_ HW_ => ?_)
  refine pure_ (i := 0) (N := (some 110)) (v := ?_) (a' := ?_) #[true,false,false,false,false,false,false,false,false,false,false,false,false,false,false,false,false] rfl rfl (any_of HT_.out (by kernel_rfl)) (fun _ _ _ h => h) (Or.inl ⟨by rfl,?_⟩) ?_ ?_
  rotate_left
  ·intro w'
   go_simp
   with_reducible rfl
  rotate_left
  ·simp only [Act.put,zYTrBa,zYTrBb,zYTrBc]
   rfl
  refine pure_ (i := 1) (N := (some 111)) (v := ?_) (a' := ?_) #[true,true,false,false,false,false,false,false,false,false,false,false,false,false,false,false,false] rfl rfl (any_of HT_.out (by kernel_rfl)) (fun _ _ _ h => h) (Or.inl ⟨by rfl,?_⟩) ?_ ?_
  rotate_left
  ·intro w'
   go_simp
   with_reducible rfl
  rotate_left
  ·simp only [Act.put,zYTrBa,zYTrBb,zYTrBc]
   rfl
  refine pure_ (i := 5) (N := (some 115)) (v := ?_) (a' := ?_) #[true,true,false,false,false,true,false,false,false,false,false,false,false,false,false,false,false] rfl rfl (any_of HT_.out (by kernel_rfl)) (fun _ _ _ h => h) (Or.inl ⟨by rfl,?_⟩) ?_ ?_
  rotate_left
  ·intro w'
   go_simp
   with_reducible rfl
  rotate_left
  ·simp only [Act.put,zYTrBa,zYTrBb,zYTrBc]
   rfl
  refine pure_ (i := 6) (N := (some 116)) (v := ?_) (a' := ?_) #[true,true,false,false,false,true,true,false,false,false,false,false,false,false,false,false,false] rfl rfl (any_of HT_.out (by kernel_rfl)) (fun _ _ _ h => h) (Or.inl ⟨by rfl,?_⟩) ?_ ?_
  rotate_left
  ·intro w'
   go_simp
   with_reducible rfl
  rotate_left
  ·simp only [Act.put,zYTrBa,zYTrBb,zYTrBc]
   rfl
  first
  |(refine pure_ (i := 7) (N := (some 117)) (v := ?_) (a' := ?_) #[true,true,false,false,false,true,true,true,false,false,false,false,false,false,false,false,false] rfl rfl (any_of HT_.out (by kernel_rfl)) (fun _ _ _ h => h) (Or.inl ⟨by rfl,?_⟩) ?_ ?_
    rotate_left
    ·intro w'
     go_simp
     with_reducible rfl
    rotate_left
    ·simp only [Act.put,zYTrBa,zYTrBb,zYTrBc]
     rfl)
  |(refine pure_ (i := 7) (N := (some 117)) (v := undef) (a' := ?_) #[true,true,false,false,false,true,true,true,false,false,false,false,false,false,false,false,false] rfl rfl (any_of HT_.out (by kernel_rfl)) (fun _ _ _ h => h) (Or.inr ⟨by rfl,rfl⟩) ?_ ?_
    rotate_left
    ·simp only [Act.put,zYTrBa,zYTrBb,zYTrBc]
     rfl)
  first
  |(refine pure_ (i := 8) (N := (some 118)) (v := ?_) (a' := ?_) #[true,true,false,false,false,true,true,true,true,false,false,false,false,false,false,false,false] rfl rfl (any_of HT_.out (by kernel_rfl)) (fun _ _ _ h => h) (Or.inl ⟨by rfl,?_⟩) ?_ ?_
    rotate_left
    ·intro w'
     go_simp
     with_reducible rfl
    rotate_left
    ·simp only [Act.put,zYTrBa,zYTrBb,zYTrBc]
     rfl)
  |(refine pure_ (i := 8) (N := (some 118)) (v := undef) (a' := ?_) #[true,true,false,false,false,true,true,true,true,false,false,false,false,false,false,false,false] rfl rfl (any_of HT_.out (by kernel_rfl)) (fun _ _ _ h => h) (Or.inr ⟨by rfl,rfl⟩) ?_ ?_
    rotate_left
    ·simp only [Act.put,zYTrBa,zYTrBb,zYTrBc]
     rfl)
  refine pure_ (i := 9) (N := (some 119)) (v := ?_) (a' := ?_) #[true,true,false,false,false,true,true,true,true,true,false,false,false,false,false,false,false] rfl rfl (any_of HT_.out (by kernel_rfl)) (fun _ _ _ h => h) (Or.inl ⟨by rfl,?_⟩) ?_ ?_
  rotate_left
  ·intro w'
   go_simp
   with_reducible rfl
  rotate_left
  ·simp only [Act.put,zYTrBa,zYTrBb,zYTrBc]
   rfl
  refine pure_ (i := 10) (N := (some 120)) (v := ?_) (a' := ?_) #[true,true,false,false,false,true,true,true,true,true,true,false,false,false,false,false,false] rfl rfl (any_of HT_.out (by kernel_rfl)) (fun _ _ _ h => h) (Or.inl ⟨by rfl,?_⟩) ?_ ?_
  rotate_left
  ·intro w'
   go_simp
   with_reducible rfl
  rotate_left
  ·simp only [Act.put,zYTrBa,zYTrBb,zYTrBc]
   rfl
  first
  |(refine pure_ (i := 11) (N := (some 121)) (v := ?_) (a' := ?_) #[true,true,false,false,false,true,true,true,true,true,true,true,false,false,false,false,false] rfl rfl (any_of HT_.out (by kernel_rfl)) (fun _ _ _ h => h) (Or.inl ⟨by rfl,?_⟩) ?_ ?_
    rotate_left
    ·intro w'
     go_simp
     with_reducible rfl
    rotate_left
    ·simp only [Act.put,zYTrBa,zYTrBb,zYTrBc]
     rfl)
  |(refine pure_ (i := 11) (N := (some 121)) (v := undef) (a' := ?_) #[true,true,false,false,false,true,true,true,true,true,true,true,false,false,false,false,false] rfl rfl (any_of HT_.out (by kernel_rfl)) (fun _ _ _ h => h) (Or.inr ⟨by rfl,rfl⟩) ?_ ?_
    rotate_left
    ·simp only [Act.put,zYTrBa,zYTrBb,zYTrBc]
     rfl)
  refine take_ (i := 2) (N := (some 112)) (v := ?_) (a' := ?_) #[true,true,true,false,false,true,true,true,true,true,true,true,false,false,false,false,false] rfl rfl (take_ofW HT_.out HW_.out (by kernel_rfl)) (fun _ _ _ h => h) (Or.inl ⟨by rfl,?_⟩) hHeld ?_ ?_
  rotate_left
  ·rintro w' ⟨s0,s1,s2,s3,s4,s5,s6,s7,_⟩
   go_simp
   with_reducible rfl
  rotate_left
  ·simp only [Act.put,zYTrBa,zYTrBb,zYTrBc]
   rfl
  refine pure_ (i := 3) (N := (some 113)) (v := ?_) (a' := ?_) #[true,true,true,true,false,true,true,true,true,true,true,true,false,false,false,false,false] rfl rfl (any_of HT_.out (by kernel_rfl)) (fun _ _ _ h => h) (Or.inl ⟨by rfl,?_⟩) ?_ ?_
  rotate_left
  ·intro w'
   go_simp
   with_reducible rfl
  rotate_left
  ·simp only [Act.put,zYTrBa,zYTrBb,zYTrBc]
   rfl
  refine take_ (i := 4) (N := (some 114)) (v := ?_) (a' := ?_) #[true,true,true,true,true,true,true,true,true,true,true,true,false,false,false,false,false] rfl rfl (take_ofW HT_.out HW_.out (by kernel_rfl)) (fun _ _ _ h => h) (Or.inl ⟨by rfl,?_⟩) hHeld ?_ ?_
  rotate_left
  ·rintro w' ⟨s0,s1,s2,s3,s4,s5,s6,s7,_⟩
   go_simp
   with_reducible rfl
  rotate_left
  ·simp only [Act.put,zYTrBa,zYTrBb,zYTrBc]
   rfl
  refine pure_ (i := 15) (N := (some 4)) (v := ?_) (a' := ?_) #[true,true,true,true,true,true,true,true,true,true,true,true,false,false,false,true,false] rfl rfl (any_of HT_.out (by kernel_rfl)) (fun _ _ _ h => h) (Or.inl ⟨by rfl,?_⟩) ?_ ?_
  rotate_left
  ·intro w'
   go_simp
   with_reducible rfl
  rotate_left
  ·simp only [Act.put,zYTrBa,zYTrBb,zYTrBc]
   rfl
  first
  |(refine take_ (i := 12) (N := (some 122)) (v := ?_) (a' := ?_) #[true,true,true,true,true,true,true,true,true,true,true,true,true,false,false,true,false] rfl rfl (take_ofW HT_.out HW_.out (by kernel_rfl)) (fun _ _ _ h => h) (Or.inl ⟨by rfl,?_⟩) hHeld ?_ ?_
    rotate_left
    ·rintro w' ⟨s0,s1,s2,s3,s4,s5,s6,s7,_⟩
     go_simp
     with_reducible rfl
    rotate_left
    ·simp only [Act.put,zYTrBa,zYTrBb,zYTrBc]
     rfl)
  |(refine pure_ (i := 12) (N := (some 122)) (v := undef) (a' := ?_) #[true,true,true,true,true,true,true,true,true,true,true,true,true,false,false,true,false] rfl rfl (any_of HT_.out (by kernel_rfl)) (fun _ _ _ h => h) (Or.inr ⟨by rfl,rfl⟩) ?_ ?_
    rotate_left
    ·simp only [Act.put,zYTrBa,zYTrBb,zYTrBc]
     rfl)
  first
  |(refine pure_ (i := 13) (N := (some 123)) (v := ?_) (a' := ?_) #[true,true,true,true,true,true,true,true,true,true,true,true,true,true,false,true,false] rfl rfl (any_of HT_.out (by kernel_rfl)) (fun _ _ _ h => h) (Or.inl ⟨by rfl,?_⟩) ?_ ?_
    rotate_left
    ·intro w'
     go_simp
     with_reducible rfl
    rotate_left
    ·simp only [Act.put,zYTrBa,zYTrBb,zYTrBc]
     rfl)
  |(refine pure_ (i := 13) (N := (some 123)) (v := undef) (a' := ?_) #[true,true,true,true,true,true,true,true,true,true,true,true,true,true,false,true,false] rfl rfl (any_of HT_.out (by kernel_rfl)) (fun _ _ _ h => h) (Or.inr ⟨by rfl,rfl⟩) ?_ ?_
    rotate_left
    ·simp only [Act.put,zYTrBa,zYTrBb,zYTrBc]
     rfl)
  refine pure_ (i := 14) (N := (some 124)) (v := ?_) (a' := ?_) #[true,true,true,true,true,true,true,true,true,true,true,true,true,true,true,true,false] rfl rfl (any_of HT_.out (by kernel_rfl)) (fun _ _ _ h => h) (Or.inl ⟨by rfl,?_⟩) ?_ ?_
  rotate_left
  ·intro w'
   go_simp
   with_reducible rfl
  rotate_left
  ·simp only [Act.put,zYTrBa,zYTrBb,zYTrBc]
   rfl
  refine pure_ (i := 16) (N := (some 5)) (v := ?_) (a' := ?_) #[true,true,true,true,true,true,true,true,true,true,true,true,true,true,true,true,true] rfl rfl (any_of HT_.out (by kernel_rfl)) (fun _ _ _ h => h) (Or.inl ⟨by rfl,?_⟩) ?_ ?_
  rotate_left
  ·intro w'
   go_simp
   with_reducible rfl
  rotate_left
  ·simp only [Act.put,zYTrBa,zYTrBb,zYTrBc]
   rfl
  refine done_ (done_of HT_.out (by kernel_rfl)) ?_
  have HB2 := Lib.hid (HBW.out.trans (hBe.mono HBW.out.size))
  go_wp2_with fail
  first
  | exact bodyPost_ret (v := .tuple #[.int .i64 ev,.bool false]) (by simp [results,Tryd.results64,go_sem]) rfl ⟨rfl,by first | exact HB2.out | (rw [← hg];exact HB2.out)⟩
  | exact bodyPost_ret (v := .tuple #[.int .i64 ev,.bool q3]) (by simp [results,Tryd.results64,go_sem]) rfl ⟨rfl,by first | exact HB2.out | (rw [← hg];exact HB2.out)⟩
set_option maxRecDepth 20000 in
set_option maxHeartbeats 8000000 in
theorem tbegin_over8_no (l r n po : Int) (tx un : ByteArray) (A : Option Addr) (m c : Nat) (w : World) (hm : (m : Int) < 4611686018427387904) (hno : (m : Int) < 1 ∨ l ≠ (m : Int) - 1 ∨ r ≠ 0) (hG : Glob w) :
 Calls Tryd.prog 64 #[.agg #[.int .i64 8,.int .i64 l,.int .i64 r,.int .i64 n,.string tx,.string un,.int .i64 po],.slice A m c] w fun e w' => e = .returned (.tuple #[.int .i64 0,.bool false]) ∧ Below w.heap.size w w' := by
 obtain ⟨g,hg⟩ : ∃ g,w.heap.size = g := ⟨_,rfl⟩
 obtain ⟨W,hW⟩ : ∃ W,w.alloc (.cells #[.int .i64 8,.int .i64 l,.int .i64 r,.int .i64 n,.string tx,.string un,.int .i64 po] 52) = W := ⟨_,rfl⟩
 have s1 : W.heap.size = g + 1 := by rw [← hW,← hg];simp
 have HBW : Hid (Below w.heap.size w W) := Lib.hid (by rw [← hW];exact alloc_keep _ _)
 have GG : Hid (∀ w' : World,Below W.heap.size W w' → Glob w') := Lib.hid (fun w' h => (hG.below HBW.out).below h)
 have hcell : W.cell? ⟨g,0,none⟩ = some (.int .i64 8) ∧ W.cell? ⟨g,1,none⟩ = some (.int .i64 l) ∧ W.cell? ⟨g,2,none⟩ = some (.int .i64 r) ∧ W.cell? ⟨g,3,none⟩ = some (.int .i64 n) ∧ W.cell? ⟨g,4,none⟩ = some (.string tx) ∧ W.cell? ⟨g,5,none⟩ = some (.string un) ∧ W.cell? ⟨g,6,none⟩ = some (.int .i64 po) := by rw [← hW,← hg];simp
 have KS : Hid (∀ w' : World,Below W.heap.size W w' → (w'.cell? ⟨g,0,none⟩ = some (.int .i64 8) ∧ w'.cell? ⟨g,1,none⟩ = some (.int .i64 l) ∧ w'.cell? ⟨g,2,none⟩ = some (.int .i64 r) ∧ w'.cell? ⟨g,3,none⟩ = some (.int .i64 n) ∧ w'.cell? ⟨g,4,none⟩ = some (.string tx) ∧ w'.cell? ⟨g,5,none⟩ = some (.string un) ∧ w'.cell? ⟨g,6,none⟩ = some (.int .i64 po) ∧ Below W.heap.size W w')) := Lib.hid (fun w' h => by
  obtain ⟨p0,p1,p2,p3,p4,p5,p6⟩ := hcell
  have mv : ∀ (j : Nat) (u : Value),W.cell? ⟨g,j,none⟩ = some u → w'.cell? ⟨g,j,none⟩ = some u := fun j u hu => (h.cell (p := ⟨g,j,none⟩) (show g < W.heap.size by omega)).trans hu
  exact ⟨mv 0 _ p0,mv 1 _ p1,mv 2 _ p2,mv 3 _ p3,mv 4 _ p4,mv 5 _ p5,mv 6 _ p6,h⟩)
 have HS := Lib.hid hW
 have KF : Hid (∀ w : World,Calls Tryd.prog 83 #[.agg #[.int .i64 8,.int .i64 l,.int .i64 r,.int .i64 n,.string tx,.string un,.int .i64 po]] w fun e w' => e = .returned (.agg #[.int .i64 8,.int .i64 n,.string tx,.string un]) ∧ Below w.heap.size w w') := Lib.hid (fun w => tfaced_at 8 l r n po tx un w)
 have hBd : Below W.heap.size W W.drew := bl_drew (Below.refl _ _)
 clear hW hcell hG
 have hw : IntKind.i64.wrap ((m : Int) - 1) = (m : Int) - 1 := by rw [IntKind.wrap_i64];omega
 have HB2 := HBW
 generalize h0 : decide ((m : Int) < 1) = q0
 generalize h1 : ((l : Int) != (m : Int) - 1) = q1
 generalize h2 : ((r : Int) != 0) = q2
 have hq : q0 = true ∨ q1 = true ∨ q2 = true := by
  rw [← h0,← h1,← h2];rcases hno with h | h | h
  ·exact .inl (decide_eq_true h)
  ·exact .inr (.inl (bne_iff_ne.mpr h))
  ·exact .inr (.inr (bne_iff_ne.mpr h))
 clear hno
 rcases (show q0 = true ∨ (q0 = false ∧ q1 = true) ∨ (q0 = false ∧ q1 = false ∧ q2 = true) from by revert hq;cases q0 <;> cases q1 <;> cases q2 <;> simp) with rfl | ⟨rfl,rfl⟩ | ⟨rfl,rfl,rfl⟩
 all_goals
  go_enter Tryd.func64,Tryd.ntmps64
  go_wp2_with fail
  rw [HS.out]
  obtain ⟨p0,p1,p2,p3,p4,p5,p6,_⟩ := KS.out W (Below.refl _ _)
  go_wp2_with fail
  clear p0 p1 p2 p3 p4 p5 p6
  exact bodyPost_ret (v := .tuple #[.int .i64 0,.bool false]) (by simp [results,Tryd.results64,go_sem]) rfl ⟨rfl,by first | exact HB2.out | (rw [← hg];exact HB2.out)⟩
set_option maxRecDepth 20000 in
set_option maxHeartbeats 8000000 in
theorem tbegin_over8 (l r n po : Int) (tx un : ByteArray) (ad : Addr) (m c : Nat) (ev : Int) (w : World) (hm : (m : Int) < 4611686018427387904) (hl : l = (m : Int) - 1) (h1 : 1 ≤ (m : Int)) (hr : r = 0) (hx : w.cell? (ad.add l.toNat) = some (.int .i64 ev)) (hG : Glob w) :
 Calls Tryd.prog 64 #[.agg #[.int .i64 8,.int .i64 l,.int .i64 r,.int .i64 n,.string tx,.string un,.int .i64 po],.slice (some ad) m c] w fun e w' => e = .returned (.tuple #[.int .i64 ev,.bool ((tx.toList == [] && un.toList == []) && (decide (-64 ≤ mn n 0) && decide (n ≤ 64)))]) ∧ Below w.heap.size w w' := by
 obtain ⟨g,hg⟩ : ∃ g,w.heap.size = g := ⟨_,rfl⟩
 obtain ⟨W,hW⟩ : ∃ W,w.alloc (.cells #[.int .i64 8,.int .i64 l,.int .i64 r,.int .i64 n,.string tx,.string un,.int .i64 po] 52) = W := ⟨_,rfl⟩
 have s1 : W.heap.size = g + 1 := by rw [← hW,← hg];simp
 have HBW : Hid (Below w.heap.size w W) := Lib.hid (by rw [← hW];exact alloc_keep _ _)
 have GG : Hid (∀ w' : World,Below W.heap.size W w' → Glob w') := Lib.hid (fun w' h => (hG.below HBW.out).below h)
 have hcell : W.cell? ⟨g,0,none⟩ = some (.int .i64 8) ∧ W.cell? ⟨g,1,none⟩ = some (.int .i64 l) ∧ W.cell? ⟨g,2,none⟩ = some (.int .i64 r) ∧ W.cell? ⟨g,3,none⟩ = some (.int .i64 n) ∧ W.cell? ⟨g,4,none⟩ = some (.string tx) ∧ W.cell? ⟨g,5,none⟩ = some (.string un) ∧ W.cell? ⟨g,6,none⟩ = some (.int .i64 po) := by rw [← hW,← hg];simp
 have hel : W.cell? (ad.add l.toNat) = some (.int .i64 ev) := (HBW.out.cell (World.block_lt_of_cell? _ _ hx)).trans hx
 have KS : Hid (∀ w' : World,Below W.heap.size W w' → (w'.cell? ⟨g,0,none⟩ = some (.int .i64 8) ∧ w'.cell? ⟨g,1,none⟩ = some (.int .i64 l) ∧ w'.cell? ⟨g,2,none⟩ = some (.int .i64 r) ∧ w'.cell? ⟨g,3,none⟩ = some (.int .i64 n) ∧ w'.cell? ⟨g,4,none⟩ = some (.string tx) ∧ w'.cell? ⟨g,5,none⟩ = some (.string un) ∧ w'.cell? ⟨g,6,none⟩ = some (.int .i64 po) ∧ w'.cell? (ad.add l.toNat) = some (.int .i64 ev) ∧ Below W.heap.size W w')) := Lib.hid (fun w' h => by
  obtain ⟨p0,p1,p2,p3,p4,p5,p6⟩ := hcell
  have mv : ∀ (j : Nat) (u : Value),W.cell? ⟨g,j,none⟩ = some u → w'.cell? ⟨g,j,none⟩ = some u := fun j u hu => (h.cell (p := ⟨g,j,none⟩) (show g < W.heap.size by omega)).trans hu
  exact ⟨mv 0 _ p0,mv 1 _ p1,mv 2 _ p2,mv 3 _ p3,mv 4 _ p4,mv 5 _ p5,mv 6 _ p6,(h.cell (World.block_lt_of_cell? _ _ hel)).trans hel,h⟩)
 have HS := Lib.hid hW
 have KF : Hid (∀ w : World,Calls Tryd.prog 83 #[.agg #[.int .i64 8,.int .i64 l,.int .i64 r,.int .i64 n,.string tx,.string un,.int .i64 po]] w fun e w' => e = .returned (.agg #[.int .i64 8,.int .i64 n,.string tx,.string un]) ∧ Below w.heap.size w w') := Lib.hid (fun w => tfaced_at 8 l r n po tx un w)
 have hBd : Below W.heap.size W W.drew := bl_drew (Below.refl _ _)
 clear hW hcell hG hel hx
 have hw : IntKind.i64.wrap ((m : Int) - 1) = (m : Int) - 1 := by rw [IntKind.wrap_i64];omega
 have f0 : decide ((m : Int) < 1) = false := decide_eq_false (by omega)
 have f1 : ((l : Int) != (m : Int) - 1) = false := by rw [hl];simp
 have f2 : ((r : Int) != 0) = false := by rw [hr];rfl
 have pl : (0 ≤ l) = True := eq_true (by omega)
 have ql : (l < (m : Int)) = True := eq_true (by omega)
 generalize h0 : (tx.toList == [] && un.toList == []) = q0
 generalize hq1 : ((n : Int) == 0) = q1
 unfold mn
 generalize hmn : (if (0 : Int) < n then (0 : Int) else n) = z
 generalize h2 : decide (-64 ≤ z) = q2
 generalize h3 : decide (n ≤ 64) = q3
 have hE : ∀ (d : Nat) (w : World),(Op.equalIn (d + 2) 109 (.agg #[.int .i64 8,.int .i64 n,.string tx,.string un]) (.agg #[.int .i64 8,.int .i64 n,.string ⟨#[]⟩,.string ⟨#[]⟩])).run Tryd.prog w = .ok q0 w := fun d w => by
  rw [eqFace,← h0,show (⟨#[]⟩ : ByteArray).toList = [] from by rw [Lib.toList_data]];simp
 clear h0 hl hr h1 hm
 rcases (show q0 = false ∨ (q0 = true ∧ q2 = false) ∨ (q0 = true ∧ q2 = true) from by cases q0 <;> cases q2 <;> simp) with rfl | ⟨rfl,rfl⟩ | ⟨rfl,rfl⟩
 all_goals
  go_enter Tryd.func64,Tryd.ntmps64
  go_wp2_with fail
  rw [HS.out]
  obtain ⟨p0,p1,p2,p3,p4,p5,p6,p7,_⟩ := KS.out W (Below.refl _ _)
  go_wp2_with fail
  clear p0 p1 p2 p3 p4 p5 p6 p7
  refine start_ (n := 19) (S := fun w' => w'.cell? ⟨g,0,none⟩ = some (.int .i64 8) ∧ w'.cell? ⟨g,1,none⟩ = some (.int .i64 l) ∧ w'.cell? ⟨g,2,none⟩ = some (.int .i64 r) ∧ w'.cell? ⟨g,3,none⟩ = some (.int .i64 n) ∧ w'.cell? ⟨g,4,none⟩ = some (.string tx) ∧ w'.cell? ⟨g,5,none⟩ = some (.string un) ∧ w'.cell? ⟨g,6,none⟩ = some (.int .i64 po) ∧ w'.cell? (ad.add l.toNat) = some (.int .i64 ev) ∧ Below W.heap.size W w') (ds := []) #[false,false,false,false,false,false,false,false,false,false,false,false,false,false,false,false,false,false,false] (by kernel_rfl) rfl rfl (KS.out _ hBd) (fun hHeld => ?_)
  refine with_tabW tbegin_tab14 tbegin_bits14 (fun HT_ HW_ => ?_)
  refine pure_ (i := 2) (N := (some 94)) (v := ?_) (a' := ?_) #[false,false,true,false,false,false,false,false,false,false,false,false,false,false,false,false,false,false,false] rfl rfl (any_of HT_.out (by kernel_rfl)) (fun _ _ _ h => h) (Or.inl ⟨by rfl,?_⟩) ?_ ?_
  rotate_left
  ·intro w'
   go_simp
   with_reducible rfl
  rotate_left
  ·simp only [Act.put,zYTrBa,zYTrBb,zYTrBc]
   rfl
  refine pure_ (i := 4) (N := (some 96)) (v := ?_) (a' := ?_) #[false,false,true,false,true,false,false,false,false,false,false,false,false,false,false,false,false,false,false] rfl rfl (any_of HT_.out (by kernel_rfl)) (fun _ _ _ h => h) (Or.inl ⟨by rfl,?_⟩) ?_ ?_
  rotate_left
  ·intro w'
   go_simp
   with_reducible rfl
  rotate_left
  ·simp only [Act.put,zYTrBa,zYTrBb,zYTrBc]
   rfl
  refine take_ (i := 0) (N := (some 92)) (v := ?_) (a' := ?_) #[true,false,true,false,true,false,false,false,false,false,false,false,false,false,false,false,false,false,false] rfl rfl (take_ofW HT_.out HW_.out (by kernel_rfl)) (fun _ _ _ h => h) (Or.inl ⟨by rfl,?_⟩) hHeld ?_ ?_
  rotate_left
  ·rintro w' ⟨s0,s1,s2,s3,s4,s5,s6,s7,_⟩
   go_simp
   with_reducible rfl
  rotate_left
  ·simp only [Act.put,zYTrBa,zYTrBb,zYTrBc]
   rfl
  refine take_ (i := 3) (N := (some 95)) (v := ?_) (a' := ?_) #[true,false,true,true,true,false,false,false,false,false,false,false,false,false,false,false,false,false,false] rfl rfl (take_ofW HT_.out HW_.out (by kernel_rfl)) (fun _ _ _ h => h) (Or.inl ⟨by rfl,?_⟩) hHeld ?_ ?_
  rotate_left
  ·rintro w' ⟨s0,s1,s2,s3,s4,s5,s6,s7,_⟩
   go_simp
   with_reducible rfl
  rotate_left
  ·simp only [Act.put,zYTrBa,zYTrBb,zYTrBc]
   rfl
  refine take_ (i := 5) (N := (some 97)) (v := ?_) (a' := ?_) #[true,false,true,true,true,true,false,false,false,false,false,false,false,false,false,false,false,false,false] rfl rfl (take_ofW HT_.out HW_.out (by kernel_rfl)) (fun _ _ _ h => h) (Or.inl ⟨by rfl,?_⟩) hHeld ?_ ?_
  rotate_left
  ·rintro w' ⟨s0,s1,s2,s3,s4,s5,s6,s7,_⟩
   go_simp
   with_reducible rfl
  rotate_left
  ·simp only [Act.put,zYTrBa,zYTrBb,zYTrBc]
   rfl
  refine pure_ (i := 6) (N := (some 98)) (v := ?_) (a' := ?_) #[true,false,true,true,true,true,true,false,false,false,false,false,false,false,false,false,false,false,false] rfl rfl (any_of HT_.out (by kernel_rfl)) (fun _ _ _ h => h) (Or.inl ⟨by rfl,?_⟩) ?_ ?_
  rotate_left
  ·intro w'
   go_simp
   with_reducible rfl
  rotate_left
  ·simp only [Act.put,zYTrBa,zYTrBb,zYTrBc]
   rfl
  refine one_ (i := 1) (N := (some 93)) #[true,true,true,true,true,true,true,false,false,false,false,false,false,false,false,false,false,false,false] rfl rfl (one_of HT_.out (by kernel_rfl)) (by decide) (fun K hK => ?_)
  refine goes_ Tryd.func83 (by kernel_rfl) rfl #[.agg #[.int .i64 8,.int .i64 l,.int .i64 r,.int .i64 n,.string tx,.string un,.int .i64 po]] (by rfl) rfl rfl (by (try simp only [List.map_toArray,List.map_cons,List.map_nil]);first | done | rfl) ?_
  (with_reducible refine (KF.out _).mono ?_)
  rintro e w1 ⟨rfl,hb1⟩
  refine ⟨_,rfl,?_⟩
  have hB1 := bl_then hBd hb1
  refine hK.out _ _ (KS.out _ hB1) (fun hHeld => ?_)
  clear hK K
  refine norm_ (a' := ?_) ?_ ?_
  rotate_left
  ·show Act.put _ (some 93) _ = _
   simp only [Act.put,zYTrBa,zYTrBb,zYTrBc]
   rfl
  refine pure_ (i := 7) (N := (some 99)) (v := ?_) (a' := ?_) #[true,true,true,true,true,true,true,true,false,false,false,false,false,false,false,false,false,false,false] rfl rfl (any_of HT_.out (by kernel_rfl)) (fun _ _ _ h => h) (Or.inl ⟨by rfl,?_⟩) ?_ ?_
  rotate_left
  ·intro w'
   go_simp
   with_reducible rfl
  rotate_left
  ·simp only [Act.put,zYTrBa,zYTrBb,zYTrBc]
   rfl
  refine pure_ (i := 8) (N := (some 100)) (v := ?_) (a' := ?_) #[true,true,true,true,true,true,true,true,true,false,false,false,false,false,false,false,false,false,false] rfl rfl (any_of HT_.out (by kernel_rfl)) (fun _ _ _ h => h) (Or.inl ⟨by rfl,?_⟩) ?_ ?_
  rotate_left
  ·intro w'
   go_simp
   with_reducible rfl
  rotate_left
  ·simp only [Act.put,zYTrBa,zYTrBb,zYTrBc]
   rfl
  first
  |(refine pure_ (i := 9) (N := (some 101)) (v := ?_) (a' := ?_) #[true,true,true,true,true,true,true,true,true,true,false,false,false,false,false,false,false,false,false] rfl rfl (any_of HT_.out (by kernel_rfl)) (fun _ _ _ h => h) (Or.inl ⟨by rfl,?_⟩) ?_ ?_
    rotate_left
    ·intro w'
     go_simp
     with_reducible rfl
    rotate_left
    ·simp only [Act.put,zYTrBa,zYTrBb,zYTrBc]
     rfl)
  |(refine pure_ (i := 9) (N := (some 101)) (v := undef) (a' := ?_) #[true,true,true,true,true,true,true,true,true,true,false,false,false,false,false,false,false,false,false] rfl rfl (any_of HT_.out (by kernel_rfl)) (fun _ _ _ h => h) (Or.inr ⟨by rfl,rfl⟩) ?_ ?_
    rotate_left
    ·simp only [Act.put,zYTrBa,zYTrBb,zYTrBc]
     rfl)
  first
  |(refine take_ (i := 10) (N := (some 102)) (v := ?_) (a' := ?_) #[true,true,true,true,true,true,true,true,true,true,true,false,false,false,false,false,false,false,false] rfl rfl (take_ofW HT_.out HW_.out (by kernel_rfl)) (fun _ _ _ h => h) (Or.inl ⟨by rfl,?_⟩) hHeld ?_ ?_
    rotate_left
    ·rintro w' ⟨s0,s1,s2,s3,s4,s5,s6,s7,_⟩
     go_simp
     with_reducible rfl
    rotate_left
    ·simp only [Act.put,zYTrBa,zYTrBb,zYTrBc]
     rfl)
  |(refine pure_ (i := 10) (N := (some 102)) (v := undef) (a' := ?_) #[true,true,true,true,true,true,true,true,true,true,true,false,false,false,false,false,false,false,false] rfl rfl (any_of HT_.out (by kernel_rfl)) (fun _ _ _ h => h) (Or.inr ⟨by rfl,rfl⟩) ?_ ?_
    rotate_left
    ·simp only [Act.put,zYTrBa,zYTrBb,zYTrBc]
     rfl)
  first
  |(refine pure_ (i := 11) (N := (some 103)) (v := ?_) (a' := ?_) #[true,true,true,true,true,true,true,true,true,true,true,true,false,false,false,false,false,false,false] rfl rfl (any_of HT_.out (by kernel_rfl)) (fun _ _ _ h => h) (Or.inl ⟨by rfl,?_⟩) ?_ ?_
    rotate_left
    ·intro w'
     go_simp
     with_reducible rfl
    rotate_left
    ·simp only [Act.put,zYTrBa,zYTrBb,zYTrBc]
     rfl)
  |(refine pure_ (i := 11) (N := (some 103)) (v := undef) (a' := ?_) #[true,true,true,true,true,true,true,true,true,true,true,true,false,false,false,false,false,false,false] rfl rfl (any_of HT_.out (by kernel_rfl)) (fun _ _ _ h => h) (Or.inr ⟨by rfl,rfl⟩) ?_ ?_
    rotate_left
    ·simp only [Act.put,zYTrBa,zYTrBb,zYTrBc]
     rfl)
  first
  |(refine pure_ (i := 12) (N := (some 104)) (v := ?_) (a' := ?_) #[true,true,true,true,true,true,true,true,true,true,true,true,true,false,false,false,false,false,false] rfl rfl (any_of HT_.out (by kernel_rfl)) (fun _ _ _ h => h) (Or.inl ⟨by rfl,?_⟩) ?_ ?_
    rotate_left
    ·intro w'
     go_simp
     with_reducible rfl
    rotate_left
    ·simp only [Act.put,zYTrBa,zYTrBb,zYTrBc]
     rfl)
  |(refine pure_ (i := 12) (N := (some 104)) (v := undef) (a' := ?_) #[true,true,true,true,true,true,true,true,true,true,true,true,true,false,false,false,false,false,false] rfl rfl (any_of HT_.out (by kernel_rfl)) (fun _ _ _ h => h) (Or.inr ⟨by rfl,rfl⟩) ?_ ?_
    rotate_left
    ·simp only [Act.put,zYTrBa,zYTrBb,zYTrBc]
     rfl)
  first
  |(refine pure_ (i := 13) (N := (some 105)) (v := ?_) (a' := ?_) #[true,true,true,true,true,true,true,true,true,true,true,true,true,true,false,false,false,false,false] rfl rfl (any_of HT_.out (by kernel_rfl)) (fun _ _ _ h => h) (Or.inl ⟨by rfl,?_⟩) ?_ ?_
    rotate_left
    ·intro w'
     go_simp
     with_reducible rfl
    rotate_left
    ·simp only [Act.put,zYTrBa,zYTrBb,zYTrBc]
     rfl)
  |(refine pure_ (i := 13) (N := (some 105)) (v := undef) (a' := ?_) #[true,true,true,true,true,true,true,true,true,true,true,true,true,true,false,false,false,false,false] rfl rfl (any_of HT_.out (by kernel_rfl)) (fun _ _ _ h => h) (Or.inr ⟨by rfl,rfl⟩) ?_ ?_
    rotate_left
    ·simp only [Act.put,zYTrBa,zYTrBb,zYTrBc]
     rfl)
  first
  |(refine take_ (i := 14) (N := (some 106)) (v := ?_) (a' := ?_) #[true,true,true,true,true,true,true,true,true,true,true,true,true,true,true,false,false,false,false] rfl rfl (take_ofW HT_.out HW_.out (by kernel_rfl)) (fun _ _ _ h => h) (Or.inl ⟨by rfl,?_⟩) hHeld ?_ ?_
    rotate_left
    ·rintro w' ⟨s0,s1,s2,s3,s4,s5,s6,s7,_⟩
     go_simp
     with_reducible rfl
    rotate_left
    ·simp only [Act.put,zYTrBa,zYTrBb,zYTrBc]
     rfl)
  |(refine pure_ (i := 14) (N := (some 106)) (v := undef) (a' := ?_) #[true,true,true,true,true,true,true,true,true,true,true,true,true,true,true,false,false,false,false] rfl rfl (any_of HT_.out (by kernel_rfl)) (fun _ _ _ h => h) (Or.inr ⟨by rfl,rfl⟩) ?_ ?_
    rotate_left
    ·simp only [Act.put,zYTrBa,zYTrBb,zYTrBc]
     rfl)
  first
  |(refine pure_ (i := 15) (N := (some 107)) (v := ?_) (a' := ?_) #[true,true,true,true,true,true,true,true,true,true,true,true,true,true,true,true,false,false,false] rfl rfl (any_of HT_.out (by kernel_rfl)) (fun _ _ _ h => h) (Or.inl ⟨by rfl,?_⟩) ?_ ?_
    rotate_left
    ·intro w'
     go_simp
     with_reducible rfl
    rotate_left
    ·simp only [Act.put,zYTrBa,zYTrBb,zYTrBc]
     rfl)
  |(refine pure_ (i := 15) (N := (some 107)) (v := undef) (a' := ?_) #[true,true,true,true,true,true,true,true,true,true,true,true,true,true,true,true,false,false,false] rfl rfl (any_of HT_.out (by kernel_rfl)) (fun _ _ _ h => h) (Or.inr ⟨by rfl,rfl⟩) ?_ ?_
    rotate_left
    ·simp only [Act.put,zYTrBa,zYTrBb,zYTrBc]
     rfl)
  first
  |(refine pure_ (i := 16) (N := (some 108)) (v := ?_) (a' := ?_) #[true,true,true,true,true,true,true,true,true,true,true,true,true,true,true,true,true,false,false] rfl rfl (any_of HT_.out (by kernel_rfl)) (fun _ _ _ h => h) (Or.inl ⟨by rfl,?_⟩) ?_ ?_
    rotate_left
    ·intro w'
     go_simp
     with_reducible rfl
    rotate_left
    ·simp only [Act.put,zYTrBa,zYTrBb,zYTrBc]
     rfl)
  |(refine pure_ (i := 16) (N := (some 108)) (v := undef) (a' := ?_) #[true,true,true,true,true,true,true,true,true,true,true,true,true,true,true,true,true,false,false] rfl rfl (any_of HT_.out (by kernel_rfl)) (fun _ _ _ h => h) (Or.inr ⟨by rfl,rfl⟩) ?_ ?_
    rotate_left
    ·simp only [Act.put,zYTrBa,zYTrBb,zYTrBc]
     rfl)
  refine pure_ (i := 17) (N := (some 109)) (v := ?_) (a' := ?_) #[true,true,true,true,true,true,true,true,true,true,true,true,true,true,true,true,true,true,false] rfl rfl (any_of HT_.out (by kernel_rfl)) (fun _ _ _ h => h) (Or.inl ⟨by rfl,?_⟩) ?_ ?_
  rotate_left
  ·intro w'
   go_simp
   with_reducible rfl
  rotate_left
  ·simp only [Act.put,zYTrBa,zYTrBb,zYTrBc]
   rfl
  refine pure_ (i := 18) (N := (some 10)) (v := ?_) (a' := ?_) #[true,true,true,true,true,true,true,true,true,true,true,true,true,true,true,true,true,true,true] rfl rfl (any_of HT_.out (by kernel_rfl)) (fun _ _ _ h => h) (Or.inl ⟨by rfl,?_⟩) ?_ ?_
  rotate_left
  ·intro w'
   go_simp
   with_reducible rfl
  rotate_left
  ·simp only [Act.put,zYTrBa,zYTrBb,zYTrBc]
   rfl
  refine done_ (done_of HT_.out (by kernel_rfl)) ?_
  obtain ⟨p0,p1,p2,p3,p4,p5,p6,p7,hB2⟩ := KS.out w1 hB1
  clear p0 p1 p2 p3 p4 p5 p6 p7
  go_wp2_with fail
  have hBe : Below W.heap.size W w1.drew := bl_drew hB1
  refine start_ (n := 17) (S := fun w' => w'.cell? ⟨g,0,none⟩ = some (.int .i64 8) ∧ w'.cell? ⟨g,1,none⟩ = some (.int .i64 l) ∧ w'.cell? ⟨g,2,none⟩ = some (.int .i64 r) ∧ w'.cell? ⟨g,3,none⟩ = some (.int .i64 n) ∧ w'.cell? ⟨g,4,none⟩ = some (.string tx) ∧ w'.cell? ⟨g,5,none⟩ = some (.string un) ∧ w'.cell? ⟨g,6,none⟩ = some (.int .i64 po) ∧ w'.cell? (ad.add l.toNat) = some (.int .i64 ev) ∧ Below W.heap.size W w') (ds := []) #[false,false,false,false,false,false,false,false,false,false,false,false,false,false,false,false,false] (by kernel_rfl) rfl rfl (KS.out _ hBe) (fun hHeld => ?_)
  refine with_tabW tbegin_tab15 tbegin_bits15 (fun HT_ HW_ => ?_)
  refine pure_ (i := 0) (N := (some 110)) (v := ?_) (a' := ?_) #[true,false,false,false,false,false,false,false,false,false,false,false,false,false,false,false,false] rfl rfl (any_of HT_.out (by kernel_rfl)) (fun _ _ _ h => h) (Or.inl ⟨by rfl,?_⟩) ?_ ?_
  rotate_left
  ·intro w'
   go_simp
   with_reducible rfl
  rotate_left
  ·simp only [Act.put,zYTrBa,zYTrBb,zYTrBc]
   rfl
  refine pure_ (i := 1) (N := (some 111)) (v := ?_) (a' := ?_) #[true,true,false,false,false,false,false,false,false,false,false,false,false,false,false,false,false] rfl rfl (any_of HT_.out (by kernel_rfl)) (fun _ _ _ h => h) (Or.inl ⟨by rfl,?_⟩) ?_ ?_
  rotate_left
  ·intro w'
   go_simp
   with_reducible rfl
  rotate_left
  ·simp only [Act.put,zYTrBa,zYTrBb,zYTrBc]
   rfl
  refine pure_ (i := 5) (N := (some 115)) (v := ?_) (a' := ?_) #[true,true,false,false,false,true,false,false,false,false,false,false,false,false,false,false,false] rfl rfl (any_of HT_.out (by kernel_rfl)) (fun _ _ _ h => h) (Or.inl ⟨by rfl,?_⟩) ?_ ?_
  rotate_left
  ·intro w'
   go_simp
   with_reducible rfl
  rotate_left
  ·simp only [Act.put,zYTrBa,zYTrBb,zYTrBc]
   rfl
  refine pure_ (i := 6) (N := (some 116)) (v := ?_) (a' := ?_) #[true,true,false,false,false,true,true,false,false,false,false,false,false,false,false,false,false] rfl rfl (any_of HT_.out (by kernel_rfl)) (fun _ _ _ h => h) (Or.inl ⟨by rfl,?_⟩) ?_ ?_
  rotate_left
  ·intro w'
   go_simp
   with_reducible rfl
  rotate_left
  ·simp only [Act.put,zYTrBa,zYTrBb,zYTrBc]
   rfl
  first
  |(refine pure_ (i := 7) (N := (some 117)) (v := ?_) (a' := ?_) #[true,true,false,false,false,true,true,true,false,false,false,false,false,false,false,false,false] rfl rfl (any_of HT_.out (by kernel_rfl)) (fun _ _ _ h => h) (Or.inl ⟨by rfl,?_⟩) ?_ ?_
    rotate_left
    ·intro w'
     go_simp
     with_reducible rfl
    rotate_left
    ·simp only [Act.put,zYTrBa,zYTrBb,zYTrBc]
     rfl)
  |(refine pure_ (i := 7) (N := (some 117)) (v := undef) (a' := ?_) #[true,true,false,false,false,true,true,true,false,false,false,false,false,false,false,false,false] rfl rfl (any_of HT_.out (by kernel_rfl)) (fun _ _ _ h => h) (Or.inr ⟨by rfl,rfl⟩) ?_ ?_
    rotate_left
    ·simp only [Act.put,zYTrBa,zYTrBb,zYTrBc]
     rfl)
  first
  |(refine pure_ (i := 8) (N := (some 118)) (v := ?_) (a' := ?_) #[true,true,false,false,false,true,true,true,true,false,false,false,false,false,false,false,false] rfl rfl (any_of HT_.out (by kernel_rfl)) (fun _ _ _ h => h) (Or.inl ⟨by rfl,?_⟩) ?_ ?_
    rotate_left
    ·intro w'
     go_simp
     with_reducible rfl
    rotate_left
    ·simp only [Act.put,zYTrBa,zYTrBb,zYTrBc]
     rfl)
  |(refine pure_ (i := 8) (N := (some 118)) (v := undef) (a' := ?_) #[true,true,false,false,false,true,true,true,true,false,false,false,false,false,false,false,false] rfl rfl (any_of HT_.out (by kernel_rfl)) (fun _ _ _ h => h) (Or.inr ⟨by rfl,rfl⟩) ?_ ?_
    rotate_left
    ·simp only [Act.put,zYTrBa,zYTrBb,zYTrBc]
     rfl)
  refine pure_ (i := 9) (N := (some 119)) (v := ?_) (a' := ?_) #[true,true,false,false,false,true,true,true,true,true,false,false,false,false,false,false,false] rfl rfl (any_of HT_.out (by kernel_rfl)) (fun _ _ _ h => h) (Or.inl ⟨by rfl,?_⟩) ?_ ?_
  rotate_left
  ·intro w'
   go_simp
   with_reducible rfl
  rotate_left
  ·simp only [Act.put,zYTrBa,zYTrBb,zYTrBc]
   rfl
  refine pure_ (i := 10) (N := (some 120)) (v := ?_) (a' := ?_) #[true,true,false,false,false,true,true,true,true,true,true,false,false,false,false,false,false] rfl rfl (any_of HT_.out (by kernel_rfl)) (fun _ _ _ h => h) (Or.inl ⟨by rfl,?_⟩) ?_ ?_
  rotate_left
  ·intro w'
   go_simp
   with_reducible rfl
  rotate_left
  ·simp only [Act.put,zYTrBa,zYTrBb,zYTrBc]
   rfl
  first
  |(refine pure_ (i := 11) (N := (some 121)) (v := ?_) (a' := ?_) #[true,true,false,false,false,true,true,true,true,true,true,true,false,false,false,false,false] rfl rfl (any_of HT_.out (by kernel_rfl)) (fun _ _ _ h => h) (Or.inl ⟨by rfl,?_⟩) ?_ ?_
    rotate_left
    ·intro w'
     go_simp
     with_reducible rfl
    rotate_left
    ·simp only [Act.put,zYTrBa,zYTrBb,zYTrBc]
     rfl)
  |(refine pure_ (i := 11) (N := (some 121)) (v := undef) (a' := ?_) #[true,true,false,false,false,true,true,true,true,true,true,true,false,false,false,false,false] rfl rfl (any_of HT_.out (by kernel_rfl)) (fun _ _ _ h => h) (Or.inr ⟨by rfl,rfl⟩) ?_ ?_
    rotate_left
    ·simp only [Act.put,zYTrBa,zYTrBb,zYTrBc]
     rfl)
  refine take_ (i := 2) (N := (some 112)) (v := ?_) (a' := ?_) #[true,true,true,false,false,true,true,true,true,true,true,true,false,false,false,false,false] rfl rfl (take_ofW HT_.out HW_.out (by kernel_rfl)) (fun _ _ _ h => h) (Or.inl ⟨by rfl,?_⟩) hHeld ?_ ?_
  rotate_left
  ·rintro w' ⟨s0,s1,s2,s3,s4,s5,s6,s7,_⟩
   go_simp
   with_reducible rfl
  rotate_left
  ·simp only [Act.put,zYTrBa,zYTrBb,zYTrBc]
   rfl
  refine pure_ (i := 3) (N := (some 113)) (v := ?_) (a' := ?_) #[true,true,true,true,false,true,true,true,true,true,true,true,false,false,false,false,false] rfl rfl (any_of HT_.out (by kernel_rfl)) (fun _ _ _ h => h) (Or.inl ⟨by rfl,?_⟩) ?_ ?_
  rotate_left
  ·intro w'
   go_simp
   with_reducible rfl
  rotate_left
  ·simp only [Act.put,zYTrBa,zYTrBb,zYTrBc]
   rfl
  refine take_ (i := 4) (N := (some 114)) (v := ?_) (a' := ?_) #[true,true,true,true,true,true,true,true,true,true,true,true,false,false,false,false,false] rfl rfl (take_ofW HT_.out HW_.out (by kernel_rfl)) (fun _ _ _ h => h) (Or.inl ⟨by rfl,?_⟩) hHeld ?_ ?_
  rotate_left
  ·rintro w' ⟨s0,s1,s2,s3,s4,s5,s6,s7,_⟩
   go_simp
   with_reducible rfl
  rotate_left
  ·simp only [Act.put,zYTrBa,zYTrBb,zYTrBc]
   rfl
  refine pure_ (i := 15) (N := (some 4)) (v := ?_) (a' := ?_) #[true,true,true,true,true,true,true,true,true,true,true,true,false,false,false,true,false] rfl rfl (any_of HT_.out (by kernel_rfl)) (fun _ _ _ h => h) (Or.inl ⟨by rfl,?_⟩) ?_ ?_
  rotate_left
  ·intro w'
   go_simp
   with_reducible rfl
  rotate_left
  ·simp only [Act.put,zYTrBa,zYTrBb,zYTrBc]
   rfl
  first
  |(refine take_ (i := 12) (N := (some 122)) (v := ?_) (a' := ?_) #[true,true,true,true,true,true,true,true,true,true,true,true,true,false,false,true,false] rfl rfl (take_ofW HT_.out HW_.out (by kernel_rfl)) (fun _ _ _ h => h) (Or.inl ⟨by rfl,?_⟩) hHeld ?_ ?_
    rotate_left
    ·rintro w' ⟨s0,s1,s2,s3,s4,s5,s6,s7,_⟩
     go_simp
     with_reducible rfl
    rotate_left
    ·simp only [Act.put,zYTrBa,zYTrBb,zYTrBc]
     rfl)
  |(refine pure_ (i := 12) (N := (some 122)) (v := undef) (a' := ?_) #[true,true,true,true,true,true,true,true,true,true,true,true,true,false,false,true,false] rfl rfl (any_of HT_.out (by kernel_rfl)) (fun _ _ _ h => h) (Or.inr ⟨by rfl,rfl⟩) ?_ ?_
    rotate_left
    ·simp only [Act.put,zYTrBa,zYTrBb,zYTrBc]
     rfl)
  first
  |(refine pure_ (i := 13) (N := (some 123)) (v := ?_) (a' := ?_) #[true,true,true,true,true,true,true,true,true,true,true,true,true,true,false,true,false] rfl rfl (any_of HT_.out (by kernel_rfl)) (fun _ _ _ h => h) (Or.inl ⟨by rfl,?_⟩) ?_ ?_
    rotate_left
    ·intro w'
     go_simp
     with_reducible rfl
    rotate_left
    ·simp only [Act.put,zYTrBa,zYTrBb,zYTrBc]
     rfl)
  |(refine pure_ (i := 13) (N := (some 123)) (v := undef) (a' := ?_) #[true,true,true,true,true,true,true,true,true,true,true,true,true,true,false,true,false] rfl rfl (any_of HT_.out (by kernel_rfl)) (fun _ _ _ h => h) (Or.inr ⟨by rfl,rfl⟩) ?_ ?_
    rotate_left
    ·simp only [Act.put,zYTrBa,zYTrBb,zYTrBc]
     rfl)
  refine pure_ (i := 14) (N := (some 124)) (v := ?_) (a' := ?_) #[true,true,true,true,true,true,true,true,true,true,true,true,true,true,true,true,false] rfl rfl (any_of HT_.out (by kernel_rfl)) (fun _ _ _ h => h) (Or.inl ⟨by rfl,?_⟩) ?_ ?_
  rotate_left
  ·intro w'
   go_simp
   with_reducible rfl
  rotate_left
  ·simp only [Act.put,zYTrBa,zYTrBb,zYTrBc]
   rfl
  refine pure_ (i := 16) (N := (some 5)) (v := ?_) (a' := ?_) #[true,true,true,true,true,true,true,true,true,true,true,true,true,true,true,true,true] rfl rfl (any_of HT_.out (by kernel_rfl)) (fun _ _ _ h => h) (Or.inl ⟨by rfl,?_⟩) ?_ ?_
  rotate_left
  ·intro w'
   go_simp
   with_reducible rfl
  rotate_left
  ·simp only [Act.put,zYTrBa,zYTrBb,zYTrBc]
   rfl
  refine done_ (done_of HT_.out (by kernel_rfl)) ?_
  have HB2 := Lib.hid (HBW.out.trans (hBe.mono HBW.out.size))
  go_wp2_with fail
  first
  | exact bodyPost_ret (v := .tuple #[.int .i64 ev,.bool false]) (by simp [results,Tryd.results64,go_sem]) rfl ⟨rfl,by first | exact HB2.out | (rw [← hg];exact HB2.out)⟩
  | exact bodyPost_ret (v := .tuple #[.int .i64 ev,.bool q3]) (by simp [results,Tryd.results64,go_sem]) rfl ⟨rfl,by first | exact HB2.out | (rw [← hg];exact HB2.out)⟩
end Go.Proofs.YtcajdkncohcaeaaDoor
