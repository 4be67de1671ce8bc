import Derived.Test.YtcajdkncohcaeaaDoorYTrKa
import Derived.Test.YtcajdkncohcaeaaDoorYTrJ
import Derived.Test.YtcajdkncohcaeaaDoorYW
import Derived.Deep.DeepCutAuto
import Derived.Deep.CutBlock
namespace Go.Proofs.YtcajdkncohcaeaaDoor
set_option linter.unusedVariables false
set_option linter.unusedSimpArgs false
theorem zYTrKa {α : Type} (l : List α) (i : Nat) (a : α) : l.toArray.setIfInBounds i a = (l.set i a).toArray := by simp
theorem zYTrKb {α : Type} (l : List α) (a b : α) : (a :: l).set 0 b = b :: l := rfl
theorem zYTrKc {α : Type} (l : List α) (i : Nat) (a b : α) : (a :: l).set (i + 1) b = a :: l.set i b := rfl
open Go.RowKit Go.Proofs.YtcajdkncohcaeaaDoorW.PrintWords Go.Proofs.YtcajdkncohcaeaaDoorW.PrintLast
open GTree (S52 k52 rd_T52)
def rbegin_T14 : Bool × List (List Nat × List Nat) := (true,[([],[]),([0],[0]),([1],[1]),([2,2],[2]),([3],[3]),([4,3],[3,4]),([3,5],[3,5]),([6,3],[6]),([7],[7]),([8,7],[7,8]),([7],[7]),([10,7],[7,10]),([9,11,7],[7,9,11]),([7,12],[7,12]),([13,7],[13]),([14],[14]),([14],[14]),([16,14],[14,16]),([15,17,14],[14,15,17]),([18,14],[14,18]),([19,14],[14,19]),([14,20],[14,20]),([21,14],[21]),([22],[22]),([23,22],[22,23]),([22],[22]),([22],[22]),([26,22],[22,26]),([25,27,22],[22,25,27]),([28,22],[22,28]),([29,22],[22,29]),([24,30,22],[22,24,30]),([22,31],[22,31]),([32,22],[32]),([33],[33]),([34,33],[33,34]),([35,33],[33,35]),([33,36],[33,36]),([37,33],[37]),([38],[38]),([39,38],[38,39]),([40,38],[38,40]),([38,41],[38,41]),([42,38],[42]),([43],[43]),([44,43],[43,44]),([45,43],[43,45]),([43,46],[43,46]),([47,43],[47])])
def rbegin_B14 : List Nat := [0,1,3,7,15,31,63,127,255,511,255,1279,4095,8191,16383,32767,32767,98303,262143,524287,1048575,2097151,4194303,8388607,16777215,8388607,8388607,75497471,243269631,511705087,1048575999,2147483647,4294967295,8589934591,17179869183,34359738367,68719476735,137438953471,274877906943,549755813887,1099511627775,2199023255551,4398046511103,8796093022207,17592186044415,35184372088831,70368744177663,140737488355327,281474976710655]
theorem rbegin_tab14 : rtab .any (opsOf Tryd.f63 14) = rbegin_T14 := by kernel_rfl
theorem rbegin_bits14 : waitsOk rbegin_T14.2 rbegin_B14 = true := by kernel_rfl
theorem infoInt : (Tryd.prog.info? 3).map (fun i => (i.zero,i.size,i.bytes)) = some (some (.int .i64 0),1,8) := by kernel_rfl
set_option maxRecDepth 20000 in
set_option maxHeartbeats 16000000 in
theorem rbegin_calls (A0 : Option Addr) (c0 : Nat) (l0 : List (S52)) (r : List Int) (w : World) (hr0 : Kd.C k52 w A0 l0.length l0) (hc0 : l0.length ≤ c0) (h : refBeginF l0 = some r) :
 Calls Tryd.prog 63 #[.slice A0 l0.length c0] w fun e w' => ∃ v0_ : Value,e = .returned (v0_) ∧ Kd.R (Kd.int .i64) 3 w' w.heap.size (fun _ => True) v0_ r ∧ Below w.heap.size w w' := by
 unfold refBeginF at h
 split at h
 case isFalse => cases h
 case isTrue hsm =>
 unfold refSmall at hsm
 rw [Bool.and_eq_true,decide_eq_true_eq,List.all_eq_true] at hsm
 obtain ⟨hlen,hall⟩ := hsm
 have hr : refBegin (l0.drop 0) [] = r := by simpa using Option.some.inj h
 clear h
 have HR0 : Hid (∀ w' : World,Below w.heap.size w w' → Kd.C k52 w' A0 l0.length l0) := Lib.hid (fun w' hb => Kd.C_below hr0 hb)
 have HALL : Hid (∀ x,x ∈ l0 → x.f4.size ≤ 140737488351232 ∧ x.f5.size ≤ 140737488351232) := Lib.hid (fun x hx => by have := hall x hx;simpa using this)
 have H0 := Lib.hid hr
 obtain ⟨n,hn⟩ : ∃ n,l0.length = n := ⟨_,rfl⟩
 rw [hn] at hlen hc0 HR0 ⊢
 have HN := Lib.hid hn
 have HLN := Lib.hid hlen
 clear hr0 hall hr hn hlen
 go_enter Tryd.func63,Tryd.ntmps63
 go_wp2_with fail
 go_loopw [3,4] (fun v3 v wr => ∃ (i : Nat) (out : List Int),v = .int .i64 i ∧ i ≤ n ∧ out.length = i ∧ Hid (fromOk out) ∧ Hid (Kd.R (Kd.int .i64) 3 wr w.heap.size (fun _ => True) v3 out) ∧ Hid (refBegin (l0.drop i) out = r) ∧ Hid (Below w.heap.size w wr)) (fun _ v _ => n - (intOf v).toNat)
 case atStart => exact ⟨0,[],rfl,Nat.zero_le _,rfl,Lib.hid (fun i hi => by simp at hi),Lib.hid (Kd.R_nil _ _ _ _ _),H0,Lib.hid (Below.refl _ _)⟩
 case round =>
  obtain ⟨i,out,rfl,hin,hoi,HF,HO,HE,HB⟩ := hrel
  obtain ⟨Ao,co,rfl⟩ := Kd.R_slice HO.out
  rw [hoi]
  by_cases hlt : i < n
  ·obtain ⟨ad,rfl,x0,x1,x2,x3,x4,x5,x6⟩ := GTree.at_T52 (HR0.out _ HB.out) (i : Int) (Int.natCast_nonneg _) (by omega)
   simp only [Int.toNat_natCast] at x0 x1 x2 x3 x4 x5 x6
   have hsz := HALL.out _ (rd_mem l0 i (by rw [HN.out];exact hlt))
   have hdr := drop_rd l0 i (by rw [HN.out];exact hlt)
   generalize rd_T52 l0 (i : Int) = x at *
   have HST : Hid ((match refStep out x with | some b => refBegin (l0.drop (i + 1)) (out ++ [b]) | none => []) = r) := Lib.hid (by rw [← HE.out,hdr,refBegin_cons];rfl)
   obtain ⟨hs4,hs5⟩ := hsz
   obtain ⟨gb,hgb⟩ : ∃ gb,wr.heap.size = gb := ⟨_,rfl⟩
   obtain ⟨W,hW⟩ : ∃ W,wr.alloc (.cells #[.int .i64 x.f0,.int .i64 x.f1,.int .i64 x.f2,.int .i64 x.f3,.string x.f4,.string x.f5,.int .i64 x.f6] 52) = W := ⟨_,rfl⟩
   have hbw : Below wr.heap.size wr W := by rw [← hW];exact alloc_keep _ _
   have hsW : W.heap.size = gb + 1 := by rw [← hW,← hgb];simp
   have hcell : W.cell? ⟨gb,0,none⟩ = some (.int .i64 x.f0) ∧ W.cell? ⟨gb,1,none⟩ = some (.int .i64 x.f1) ∧ W.cell? ⟨gb,2,none⟩ = some (.int .i64 x.f2) ∧ W.cell? ⟨gb,3,none⟩ = some (.int .i64 x.f3) ∧ W.cell? ⟨gb,4,none⟩ = some (.string x.f4) ∧ W.cell? ⟨gb,5,none⟩ = some (.string x.f5) ∧ W.cell? ⟨gb,6,none⟩ = some (.int .i64 x.f6) := by rw [← hW,← hgb];simp
   have HOW : Hid (∀ w' : World,Below W.heap.size W w' → Kd.R (Kd.int .i64) 3 w' w.heap.size (fun _ => True) (.slice Ao i co) out) := Lib.hid (fun w' hb => by have := Kd.R_below (Kd.R_below HO.out hbw) hb;rwa [hoi] at this)
   have HBW : Hid (∀ w' : World,Below W.heap.size W w' → Below w.heap.size w w') := Lib.hid (fun w' hb => HB.out.trans ((hbw.mono HB.out.size).trans (hb.mono (Nat.le_trans HB.out.size hbw.size))))
   have KS : Hid (∀ w' : World,Below W.heap.size W w' → (w'.cell? ⟨gb,0,none⟩ = some (.int .i64 x.f0) ∧ w'.cell? ⟨gb,1,none⟩ = some (.int .i64 x.f1) ∧ w'.cell? ⟨gb,2,none⟩ = some (.int .i64 x.f2) ∧ w'.cell? ⟨gb,3,none⟩ = some (.int .i64 x.f3) ∧ w'.cell? ⟨gb,4,none⟩ = some (.string x.f4) ∧ w'.cell? ⟨gb,5,none⟩ = some (.string x.f5) ∧ w'.cell? ⟨gb,6,none⟩ = some (.int .i64 x.f6) ∧ Below W.heap.size W w')) := Lib.hid (fun w' h => by
    obtain ⟨p0,p1,p2,p3,p4,p5,p6⟩ := hcell
    have mv : ∀ (j : Nat) (u : Value),W.cell? ⟨gb,j,none⟩ = some u → w'.cell? ⟨gb,j,none⟩ = some u := fun j u hu => (h.cell (p := ⟨gb,j,none⟩) (show gb < W.heap.size by omega)).trans hu
    exact ⟨mv 0 _ p0,mv 1 _ p1,mv 2 _ p2,mv 3 _ p3,mv 4 _ p4,mv 5 _ p5,mv 6 _ p6,h⟩)
   have HOL := Lib.hid (And.intro hoi (And.intro hlt HLN.out))
   have HS := Lib.hid hW
   have KG : Hid (∀ w : World,Calls Tryd.prog 81 #[.string x.f4] w fun e w' => e = .returned (.bool (goodL x.f4)) ∧ w = w') := Lib.hid (fun w => rlgood_any _ w hs4)
   have KU : Hid (∀ w : World,Calls Tryd.prog 82 #[.string x.f5] w fun e w' => e = .returned (.bool (unitB x.f5)) ∧ w = w') := Lib.hid (fun w => runits_any _ w hs5)
   have KN : Hid (∀ w : World,Calls Tryd.prog 20 #[.string x.f4] w fun e w' => e = .returned (.bool (isName x.f4)) ∧ w = w') := Lib.hid (fun w => risName_any _ w hs4)
   have KT : Hid (∀ w : World,Calls Tryd.prog 40 #[.int .i64 x.f0] w fun e w' => e = .returned (.bool (twoK x.f0)) ∧ Below w.heap.size w w') := Lib.hid (fun w => two_calls _ _ w rfl)
   have hwi : IntKind.i64.wrap ((i : Int) + 1) = (i : Int) + 1 := by rw [IntKind.wrap_i64];have := HLN.out;omega
   have hlti : ((i : Int) < (n : Int)) = True := eq_true (by omega)
   have hpi : (0 ≤ (i : Int)) = True := eq_true (by omega)
   have hlx := World.block_lt_of_cell? _ _ x0
   clear hdr hbw hsW hcell hW hs4 hs5 HE
   obtain ⟨p1,h1⟩ : ∃ p,(x.f0 == 1) = p := ⟨_,rfl⟩
   obtain ⟨p2,h2⟩ : ∃ p,(x.f0 == 2) = p := ⟨_,rfl⟩
   obtain ⟨p7,h7⟩ : ∃ p,(x.f0 == 7) = p := ⟨_,rfl⟩
   obtain ⟨p8,h8⟩ : ∃ p,(x.f0 == 8) = p := ⟨_,rfl⟩
   obtain ⟨a0,ha0⟩ : ∃ p,(x.f1 == 0) = p := ⟨_,rfl⟩
   obtain ⟨b0,hb0⟩ : ∃ p,(x.f2 == 0) = p := ⟨_,rfl⟩
   obtain ⟨z,hz⟩ : ∃ p,(x.f3 == 0) = p := ⟨_,rfl⟩
   obtain ⟨ge,hge⟩ : ∃ p,decide (-64 ≤ x.f3) = p := ⟨_,rfl⟩
   obtain ⟨le,hle⟩ : ∃ p,decide (x.f3 ≤ 64) = p := ⟨_,rfl⟩
   obtain ⟨ip,hip⟩ : ∃ p,decide (0 < (i : Int)) = p := ⟨_,rfl⟩
   obtain ⟨j,hj⟩ : ∃ j,(i : Int) - 1 = j := ⟨_,rfl⟩
   obtain ⟨a1,ha1⟩ : ∃ p,(x.f1 == j) = p := ⟨_,rfl⟩
   obtain ⟨i1,hi1⟩ : ∃ p,decide (1 < (i : Int)) = p := ⟨_,rfl⟩
   obtain ⟨bb,hbb⟩ : ∃ p,(x.f2 == j) = p := ⟨_,rfl⟩
   obtain ⟨e,he⟩ : ∃ e,rd out j = e := ⟨_,rfl⟩
   obtain ⟨og,hog⟩ : ∃ p,decide (0 < e) = p := ⟨_,rfl⟩
   obtain ⟨aa,haa⟩ : ∃ p,(x.f1 == e - 1) = p := ⟨_,rfl⟩
   obtain ⟨tw,htw⟩ : ∃ p,twoK x.f0 = p := ⟨_,rfl⟩
   obtain ⟨te,hte⟩ : ∃ p,(x.f4.toList == []) = p := ⟨_,rfl⟩
   obtain ⟨em,hem⟩ : ∃ p,(x.f5.toList == []) = p := ⟨_,rfl⟩
   obtain ⟨g,hg⟩ : ∃ p,goodL x.f4 = p := ⟨_,rfl⟩
   obtain ⟨u,hu⟩ : ∃ p,unitB x.f5 = p := ⟨_,rfl⟩
   obtain ⟨nm,hnm⟩ : ∃ p,isName x.f4 = p := ⟨_,rfl⟩
   have hipn : decide (0 < i) = ip := by rw [← hip];exact decide_eq_decide.mpr (by omega)
   have hi1n : decide (1 < i) = i1 := by rw [← hi1];exact decide_eq_decide.mpr (by omega)
   have H78 : Hid (p7 = true → p8 = false) := Lib.hid (fun h => by rw [← h8];exact seven_eight x.f0 (by rw [h7];exact h))
   have HLF : Hid (leafB x = (a0 && (b0 && z))) := Lib.hid (by unfold leafB;rw [ha0,hb0,hz])
   have HLIT : Hid (litB x = (p1 && (leafB x && (g && u)))) := Lib.hid (by unfold litB;rw [h1,hg,hu])
   have HREF : Hid (refB x = (p2 && (leafB x && (nm && em)))) := Lib.hid (by unfold refB;rw [h2,hnm,hem])
   have HOVB : Hid (overB (i : Int) x = (((p7 && z) || (p8 && (ge && le))) && (ip && (a1 && (b0 && (te && em)))))) := Lib.hid (by unfold overB;rw [h7,h8,hz,hge,hle,hip,hj,ha1,hb0,hte,hem])
   have HTWB : Hid (twoB (i : Int) e x = (tw && (i1 && (bb && (og && (aa && (z && (te && em)))))))) := Lib.hid (by unfold twoB;rw [htw,hi1,hj,hbb,hog,haa,hz,hte,hem])
   rw [htw] at KT
   rw [hg] at KG
   rw [hu] at KU
   rw [hnm] at KN
   clear hg hu hnm htw
   have hwm : IntKind.i64.wrap ((i : Int) - 1) = j := by rw [IntKind.wrap_i64,← hj];have := HLN.out;omega
   have HJ := Lib.hid (And.intro hj he)
   have HSS : Hid (refStep out x = if litB x = true then some (i : Int) else if refB x = true then some (i : Int) else if overB (i : Int) x = true then some e else if twoB (i : Int) e x = true then some (rd out x.f1) else none) := Lib.hid (by unfold refStep;rw [hoi,hj,he])
   clear hj he
   obtain ⟨s0,s1,s2,s3,s4,s5,s6,_⟩ := KS.out W (Below.refl _ _)
   go_upto_region 6 with fail
   rw [HS.out]
   go_cut [6] (fun v6 wz => v6 = .bool (leafB x) ∧ wz = W)
   case first => as_aux_lemma =>
    cases a0
    ·go_wp2_with fail
     go_meet
     case rel => exact ⟨by rw [HLF.out];first | rfl | (simp only [Bool.and_true,Bool.true_and,Bool.and_false,Bool.false_and,Bool.or_true,Bool.true_or,Bool.or_false,Bool.false_or];done),rfl⟩
    ·cases b0
     ·go_wp2_with fail
      go_meet
      case rel => exact ⟨by rw [HLF.out];first | rfl | (simp only [Bool.and_true,Bool.true_and,Bool.and_false,Bool.false_and,Bool.or_true,Bool.true_or,Bool.or_false,Bool.false_or];done),rfl⟩
     ·go_wp2_with fail
      go_meet
      case rel => exact ⟨by rw [HLF.out];first | rfl | (simp only [Bool.and_true,Bool.true_and,Bool.and_false,Bool.false_and,Bool.or_true,Bool.true_or,Bool.or_false,Bool.false_or];done),rfl⟩
   case rest =>
    obtain ⟨rfl,rfl⟩ := hcut
    obtain ⟨lf,hlf⟩ : ∃ lf,leafB x = lf := ⟨_,rfl⟩
    rw [hlf] at HLIT HREF ⊢
    clear hlf
    go_upto_region 8 with fail
    go_cut [30] (fun v wz => v = .bool (litB x) ∧ wz = wc)
    case first => as_aux_lemma =>
     cases p1
     ·go_wp2_with (first | (go_at_call 81;(with_reducible refine (KG.out _).mono ?_);rintro e w' ⟨rfl,rfl⟩) | (go_at_call 82;(with_reducible refine (KU.out _).mono ?_);rintro e w' ⟨rfl,rfl⟩))
      go_meet
      case rel => exact ⟨by rw [HLIT.out];first | rfl | (simp only [Bool.and_true,Bool.true_and,Bool.and_false,Bool.false_and,Bool.or_true,Bool.true_or,Bool.or_false,Bool.false_or];done),rfl⟩
     ·cases lf
      ·go_wp2_with (first | (go_at_call 81;(with_reducible refine (KG.out _).mono ?_);rintro e w' ⟨rfl,rfl⟩) | (go_at_call 82;(with_reducible refine (KU.out _).mono ?_);rintro e w' ⟨rfl,rfl⟩))
       go_meet
       case rel => exact ⟨by rw [HLIT.out];first | rfl | (simp only [Bool.and_true,Bool.true_and,Bool.and_false,Bool.false_and,Bool.or_true,Bool.true_or,Bool.or_false,Bool.false_or];done),rfl⟩
      ·cases g
       ·go_wp2_with (first | (go_at_call 81;(with_reducible refine (KG.out _).mono ?_);rintro e w' ⟨rfl,rfl⟩) | (go_at_call 82;(with_reducible refine (KU.out _).mono ?_);rintro e w' ⟨rfl,rfl⟩))
        go_meet
        case rel => exact ⟨by rw [HLIT.out];first | rfl | (simp only [Bool.and_true,Bool.true_and,Bool.and_false,Bool.false_and,Bool.or_true,Bool.true_or,Bool.or_false,Bool.false_or];done),rfl⟩
       ·go_wp2_with (first | (go_at_call 81;(with_reducible refine (KG.out _).mono ?_);rintro e w' ⟨rfl,rfl⟩) | (go_at_call 82;(with_reducible refine (KU.out _).mono ?_);rintro e w' ⟨rfl,rfl⟩))
        go_meet
        case rel => exact ⟨by rw [HLIT.out];first | rfl | (simp only [Bool.and_true,Bool.true_and,Bool.and_false,Bool.false_and,Bool.or_true,Bool.true_or,Bool.or_false,Bool.false_or];done),rfl⟩
    case rest =>
     obtain ⟨rfl,rfl⟩ := hcut
     cases hlit : litB x with
     | true => as_aux_lemma =>
      have HN2 : Hid (refBegin (l0.drop (i + 1)) (out ++ [(i : Int)]) = r) := Lib.hid (by rw [← HST.out,HSS.out,if_pos hlit])
      clear hlit
      go_wp2_with (first | ((with_reducible refine gate_builtin (b := .append) (xs := #[.tmp 47,.tmp 49]) rfl ?_);at_builtin;refine Kd.R_append (Kd.int .i64) (w0 := w) w.heap.size rfl (.tmp 47) (.tmp 49) 56 3 (.int .i64 0) 8 rfl Tryd.underlying56 infoInt rfl (by decide) (by omega) (.slice Ao i co) out ((i : Int)) [.int .i64 ((i : Int))] (fun _ => True) (fun _ => False) rfl rfl ?aP (fun _ hk => hk.elim) ?aF ?aO ?aB ?aS ?aL ?_;(case aP => exact rfl);(case aF => exact fun _ _ => trivial);(case aO => exact Kd.R_mono (HOW.out _ (Below.refl _ _)) (fun _ _ => trivial));(case aB => exact (HBW.out _ (Below.refl _ _)));(case aS => exact (HBW.out _ (Below.refl _ _)).size);(case aL => have := HOL.out;omega);intro v1 w2 hO2 hB2 hg2 _;have HO2 := Lib.hid hO2;have HB2 := Lib.hid hB2;clear hO2 hB2 hg2))
      exact ⟨⟨i + 1,out ++ [(i : Int)],by go_num,by omega,by rw [List.length_append,HOL.out.1];rfl,Lib.hid (fromOk_snoc HF.out (by omega) (by have := HOL.out;omega)),HO2,HN2,HB2⟩,by simp [intOf];omega⟩
     | false =>
      go_upto_region 10 with fail
      go_cut [51] (fun v wz => v = .bool (refB x) ∧ wz = wc)
      case first => as_aux_lemma =>
       cases p2
       ·go_wp2_with (first | (go_at_call 20;(with_reducible refine (KN.out _).mono ?_);rintro e w' ⟨rfl,rfl⟩))
        go_meet
        case rel => exact ⟨by rw [HREF.out];first | rfl | (simp only [Bool.and_true,Bool.true_and,Bool.and_false,Bool.false_and,Bool.or_true,Bool.true_or,Bool.or_false,Bool.false_or];done),rfl⟩
       ·cases lf
        ·go_wp2_with (first | (go_at_call 20;(with_reducible refine (KN.out _).mono ?_);rintro e w' ⟨rfl,rfl⟩))
         go_meet
         case rel => exact ⟨by rw [HREF.out];first | rfl | (simp only [Bool.and_true,Bool.true_and,Bool.and_false,Bool.false_and,Bool.or_true,Bool.true_or,Bool.or_false,Bool.false_or];done),rfl⟩
        ·cases nm
         ·go_wp2_with (first | (go_at_call 20;(with_reducible refine (KN.out _).mono ?_);rintro e w' ⟨rfl,rfl⟩))
          go_meet
          case rel => exact ⟨by rw [HREF.out];first | rfl | (simp only [Bool.and_true,Bool.true_and,Bool.and_false,Bool.false_and,Bool.or_true,Bool.true_or,Bool.or_false,Bool.false_or];done),rfl⟩
         ·go_wp2_with (first | (go_at_call 20;(with_reducible refine (KN.out _).mono ?_);rintro e w' ⟨rfl,rfl⟩))
          go_meet
          case rel => exact ⟨by rw [HREF.out];first | rfl | (simp only [Bool.and_true,Bool.true_and,Bool.and_false,Bool.false_and,Bool.or_true,Bool.true_or,Bool.or_false,Bool.false_or];done),rfl⟩
      case rest =>
       obtain ⟨rfl,rfl⟩ := hcut
       cases hrf : refB x with
       | true => as_aux_lemma =>
        have HN2 : Hid (refBegin (l0.drop (i + 1)) (out ++ [(i : Int)]) = r) := Lib.hid (by rw [← HST.out,HSS.out,if_neg (by rw [hlit];decide),if_pos hrf])
        clear hrf hlit
        go_wp2_with (first | ((with_reducible refine gate_builtin (b := .append) (xs := #[.tmp 68,.tmp 70]) rfl ?_);at_builtin;refine Kd.R_append (Kd.int .i64) (w0 := w) w.heap.size rfl (.tmp 68) (.tmp 70) 56 3 (.int .i64 0) 8 rfl Tryd.underlying56 infoInt rfl (by decide) (by omega) (.slice Ao i co) out ((i : Int)) [.int .i64 ((i : Int))] (fun _ => True) (fun _ => False) rfl rfl ?aP (fun _ hk => hk.elim) ?aF ?aO ?aB ?aS ?aL ?_;(case aP => exact rfl);(case aF => exact fun _ _ => trivial);(case aO => exact Kd.R_mono (HOW.out _ (Below.refl _ _)) (fun _ _ => trivial));(case aB => exact (HBW.out _ (Below.refl _ _)));(case aS => exact (HBW.out _ (Below.refl _ _)).size);(case aL => have := HOL.out;omega);intro v1 w2 hO2 hB2 hg2 _;have HO2 := Lib.hid hO2;have HB2 := Lib.hid hB2;clear hO2 hB2 hg2))
        exact ⟨⟨i + 1,out ++ [(i : Int)],by go_num,by omega,by rw [List.length_append,HOL.out.1];rfl,Lib.hid (fromOk_snoc HF.out (by omega) (by have := HOL.out;omega)),HO2,HN2,HB2⟩,by simp [intOf];omega⟩
       | false =>
        go_upto_region 12 with fail
        go_cut [72] (fun v wz => v = .bool (overB (i : Int) x) ∧ wz = wc)
        case first => as_aux_lemma =>
         cases p7
         ·cases p8
          ·go_wp2_with fail
           go_meet
           case rel => exact ⟨by rw [HOVB.out];first | rfl | (simp only [Bool.and_true,Bool.true_and,Bool.and_false,Bool.false_and,Bool.or_true,Bool.true_or,Bool.or_false,Bool.false_or];done),rfl⟩
          ·cases ge
           ·go_wp2_with fail
            go_meet
            case rel => exact ⟨by rw [HOVB.out];first | rfl | (simp only [Bool.and_true,Bool.true_and,Bool.and_false,Bool.false_and,Bool.or_true,Bool.true_or,Bool.or_false,Bool.false_or];done),rfl⟩
           ·cases le
            ·go_wp2_with fail
             go_meet
             case rel => exact ⟨by rw [HOVB.out];first | rfl | (simp only [Bool.and_true,Bool.true_and,Bool.and_false,Bool.false_and,Bool.or_true,Bool.true_or,Bool.or_false,Bool.false_or];done),rfl⟩
            ·cases ip
             ·go_wp2_with fail
              go_meet
              case rel => exact ⟨by rw [HOVB.out];first | rfl | (simp only [Bool.and_true,Bool.true_and,Bool.and_false,Bool.false_and,Bool.or_true,Bool.true_or,Bool.or_false,Bool.false_or];done),rfl⟩
             ·cases a1
              ·go_wp2_with fail
               go_meet
               case rel => exact ⟨by rw [HOVB.out];first | rfl | (simp only [Bool.and_true,Bool.true_and,Bool.and_false,Bool.false_and,Bool.or_true,Bool.true_or,Bool.or_false,Bool.false_or];done),rfl⟩
              ·cases b0
               ·go_wp2_with fail
                go_meet
                case rel => exact ⟨by rw [HOVB.out];first | rfl | (simp only [Bool.and_true,Bool.true_and,Bool.and_false,Bool.false_and,Bool.or_true,Bool.true_or,Bool.or_false,Bool.false_or];done),rfl⟩
               ·cases te
                ·go_wp2_with fail
                 go_meet
                 case rel => exact ⟨by rw [HOVB.out];first | rfl | (simp only [Bool.and_true,Bool.true_and,Bool.and_false,Bool.false_and,Bool.or_true,Bool.true_or,Bool.or_false,Bool.false_or];done),rfl⟩
                ·go_wp2_with fail
                 go_meet
                 case rel => exact ⟨by rw [HOVB.out];first | rfl | (simp only [Bool.and_true,Bool.true_and,Bool.and_false,Bool.false_and,Bool.or_true,Bool.true_or,Bool.or_false,Bool.false_or];done),rfl⟩
         ·cases z
          ·obtain rfl := H78.out rfl
           go_wp2_with fail
           go_meet
           case rel => exact ⟨by rw [HOVB.out];first | rfl | (simp only [Bool.and_true,Bool.true_and,Bool.and_false,Bool.false_and,Bool.or_true,Bool.true_or,Bool.or_false,Bool.false_or];done),rfl⟩
          ·cases ip
           ·go_wp2_with fail
            go_meet
            case rel => exact ⟨by rw [HOVB.out];first | rfl | (simp only [Bool.and_true,Bool.true_and,Bool.and_false,Bool.false_and,Bool.or_true,Bool.true_or,Bool.or_false,Bool.false_or];done),rfl⟩
           ·cases a1
            ·go_wp2_with fail
             go_meet
             case rel => exact ⟨by rw [HOVB.out];first | rfl | (simp only [Bool.and_true,Bool.true_and,Bool.and_false,Bool.false_and,Bool.or_true,Bool.true_or,Bool.or_false,Bool.false_or];done),rfl⟩
            ·cases b0
             ·go_wp2_with fail
              go_meet
              case rel => exact ⟨by rw [HOVB.out];first | rfl | (simp only [Bool.and_true,Bool.true_and,Bool.and_false,Bool.false_and,Bool.or_true,Bool.true_or,Bool.or_false,Bool.false_or];done),rfl⟩
             ·cases te
              ·go_wp2_with fail
               go_meet
               case rel => exact ⟨by rw [HOVB.out];first | rfl | (simp only [Bool.and_true,Bool.true_and,Bool.and_false,Bool.false_and,Bool.or_true,Bool.true_or,Bool.or_false,Bool.false_or];done),rfl⟩
              ·go_wp2_with fail
               go_meet
               case rel => exact ⟨by rw [HOVB.out];first | rfl | (simp only [Bool.and_true,Bool.true_and,Bool.and_false,Bool.false_and,Bool.or_true,Bool.true_or,Bool.or_false,Bool.false_or];done),rfl⟩
        case rest =>
         obtain ⟨rfl,rfl⟩ := hcut
         have HSS2 : Hid (refStep out x = if overB (i : Int) x = true then some e else if twoB (i : Int) e x = true then some (rd out x.f1) else none) := Lib.hid (by rw [HSS.out,if_neg (by rw [hlit];decide),if_neg (by rw [hrf];decide)])
         clear hlit hrf
         have hC := (Kd.R_reads' (HOW.out _ (Below.refl _ _))).2.2
         cases hov : overB (i : Int) x with
         | true => as_aux_lemma =>
          have HN2 : Hid (refBegin (l0.drop (i + 1)) (out ++ [e]) = r) := Lib.hid (by rw [← HST.out,HSS2.out,if_pos hov])
          have h1i : 1 ≤ (i : Int) := by
           have := HOVB.out;rw [hov] at this
           cases ip with
           | true => have := of_decide_eq_true hip;omega
           | false => simp at this
          have hj := HJ.out.1
          have HFE := HF.out (i - 1) (by omega)
          rw [show ((i - 1 : Nat) : Int) = j by omega,HJ.out.2] at HFE
          obtain ⟨ad2,rfl,hxo⟩ := Kd.at_int hC j (by omega) (by omega)
          rw [HJ.out.2] at hxo
          have pj : (0 ≤ j) = True := eq_true (by omega)
          have qj : (j < (i : Int)) = True := eq_true (by omega)
          have HFE2 := Lib.hid (And.intro HFE hj)
          clear HFE hov hj h1i
          go_wp2_with (first | ((with_reducible refine gate_builtin (b := .append) (xs := #[.tmp 122,.tmp 128]) rfl ?_);at_builtin;refine Kd.R_append (Kd.int .i64) (w0 := w) w.heap.size rfl (.tmp 122) (.tmp 128) 56 3 (.int .i64 0) 8 rfl Tryd.underlying56 infoInt rfl (by decide) (by omega) (.slice (some ad2) i co) out (e) [.int .i64 (e)] (fun _ => True) (fun _ => False) rfl rfl ?aP (fun _ hk => hk.elim) ?aF ?aO ?aB ?aS ?aL ?_;(case aP => exact rfl);(case aF => exact fun _ _ => trivial);(case aO => exact Kd.R_mono (HOW.out _ (Below.refl _ _)) (fun _ _ => trivial));(case aB => exact (HBW.out _ (Below.refl _ _)));(case aS => exact (HBW.out _ (Below.refl _ _)).size);(case aL => have := HOL.out;omega);intro v1 w2 hO2 hB2 hg2 _;have HO2 := Lib.hid hO2;have HB2 := Lib.hid hB2;clear hO2 hB2 hg2))
          exact ⟨⟨i + 1,out ++ [e],by go_num,by omega,by rw [List.length_append,HOL.out.1];rfl,Lib.hid (fromOk_snoc HF.out (by have := HFE2.out;omega) (by have := HFE2.out;have := HOL.out;omega)),HO2,HN2,HB2⟩,by simp [intOf];omega⟩
         | false =>
          go_upto_region 14 with fail
          go_cut [130] (fun v wz => v = .bool (twoB (i : Int) e x) ∧ Hid (Below wc.heap.size wc wz))
          case first =>
           have hBd : Below wc.heap.size wc wc.drew := bl_drew (Below.refl _ _)
           by_cases hi2 : tw = true ∧ i1 = true
           ·obtain ⟨rfl,rfl⟩ := hi2
            have hj := HJ.out.1
            have h2i : 1 < (i : Int) := of_decide_eq_true hi1
            obtain ⟨ad2,rfl,hxo⟩ := Kd.at_int hC j (by omega) (by omega)
            rw [HJ.out.2] at hxo
            have pj : (0 ≤ j) = True := eq_true (by omega)
            have qj : (j < (i : Int)) = True := eq_true (by omega)
            have hFj := HF.out (i - 1) (by omega)
            rw [show ((i - 1 : Nat) : Int) = j by omega,HJ.out.2] at hFj
            have hwe : IntKind.i64.wrap (e - 1) = e - 1 := by rw [IntKind.wrap_i64];have := HLN.out;omega
            have KE : Hid (∀ w' : World,Below wc.heap.size wc w' → (w'.cell? ⟨gb,0,none⟩ = some (.int .i64 x.f0) ∧ w'.cell? ⟨gb,1,none⟩ = some (.int .i64 x.f1) ∧ w'.cell? ⟨gb,2,none⟩ = some (.int .i64 x.f2) ∧ w'.cell? ⟨gb,3,none⟩ = some (.int .i64 x.f3) ∧ w'.cell? ⟨gb,4,none⟩ = some (.string x.f4) ∧ w'.cell? ⟨gb,5,none⟩ = some (.string x.f5) ∧ w'.cell? ⟨gb,6,none⟩ = some (.int .i64 x.f6) ∧ w'.cell? (ad2.add j.toNat) = some (.int .i64 e) ∧ Below wc.heap.size wc w')) := Lib.hid (fun w' h => by
             obtain ⟨p0,p1,p2,p3,p4,p5,p6,h'⟩ := KS.out w' h
             exact ⟨p0,p1,p2,p3,p4,p5,p6,(h.cell (World.block_lt_of_cell? _ _ hxo)).trans hxo,h'⟩)
            clear hj h2i hFj hxo
            rcases (show bb = false ∨ (bb = true ∧ og = false) ∨ (bb = true ∧ og = true ∧ aa = false) ∨ (bb = true ∧ og = true ∧ aa = true ∧ z = false) ∨ (bb = true ∧ og = true ∧ aa = true ∧ z = true ∧ te = false) ∨ (bb = true ∧ og = true ∧ aa = true ∧ z = true ∧ te = true) from by cases bb <;> cases og <;> cases aa <;> cases z <;> cases te <;> simp) with rfl | ⟨rfl,rfl⟩ | ⟨rfl,rfl,rfl⟩ | ⟨rfl,rfl,rfl,rfl⟩ | ⟨rfl,rfl,rfl,rfl,rfl⟩ | ⟨rfl,rfl,rfl,rfl,rfl⟩
            all_goals as_aux_lemma =>
             refine start_ (n := 49) (S := fun w' => w'.cell? ⟨gb,0,none⟩ = some (.int .i64 x.f0) ∧ w'.cell? ⟨gb,1,none⟩ = some (.int .i64 x.f1) ∧ w'.cell? ⟨gb,2,none⟩ = some (.int .i64 x.f2) ∧ w'.cell? ⟨gb,3,none⟩ = some (.int .i64 x.f3) ∧ w'.cell? ⟨gb,4,none⟩ = some (.string x.f4) ∧ w'.cell? ⟨gb,5,none⟩ = some (.string x.f5) ∧ w'.cell? ⟨gb,6,none⟩ = some (.int .i64 x.f6) ∧ w'.cell? (ad2.add j.toNat) = some (.int .i64 e) ∧ Below wc.heap.size wc w') (ds := []) #[false,false,false,false,false,false,false,false,false,false,false,false,false,false,false,false,false,false,false,false,false,false,false,false,false,false,false,false,false,false,false,false,false,false,false,false,false,false,false,false,false,false,false,false,false,false,false,false,false] (by kernel_rfl) rfl rfl (KE.out _ hBd) (fun hHeld => ?_)
             refine with_tabW rbegin_tab14 rbegin_bits14 (fun HT_ HW_ => ?_)
             refine pure_ (i := 0) (N := (some 131)) (v := ?_) (a' := ?_) #[true,false,false,false,false,false,false,false,false,false,false,false,false,false,false,false,false,false,false,false,false,false,false,false,false,false,false,false,false,false,false,false,false,false,false,false,false,false,false,false,false,false,false,false,false,false,false,false,false] rfl rfl (any_of HT_.out (by kernel_rfl)) (fun _ _ _ h => h) (Or.inl ⟨by rfl,?_⟩) ?_ ?_
             rotate_left
             ·intro w'
              go_simp
              with_reducible rfl
             rotate_left
             ·simp only [Act.put,zYTrKa,zYTrKb,zYTrKc]
              rfl
             refine take_ (i := 1) (N := (some 132)) (v := ?_) (a' := ?_) #[true,true,false,false,false,false,false,false,false,false,false,false,false,false,false,false,false,false,false,false,false,false,false,false,false,false,false,false,false,false,false,false,false,false,false,false,false,false,false,false,false,false,false,false,false,false,false,false,false] rfl rfl (take_ofW HT_.out HW_.out (by kernel_rfl)) (fun _ _ _ h => h) (Or.inl ⟨by rfl,?_⟩) hHeld ?_ ?_
             rotate_left
             ·rintro w' ⟨s0,s1,s2,s3,s4,s5,s6,s7,_⟩
              go_simp
              with_reducible rfl
             rotate_left
             ·simp only [Act.put,zYTrKa,zYTrKb,zYTrKc]
              rfl
             refine one_ (i := 2) (N := (some 133)) #[true,true,true,false,false,false,false,false,false,false,false,false,false,false,false,false,false,false,false,false,false,false,false,false,false,false,false,false,false,false,false,false,false,false,false,false,false,false,false,false,false,false,false,false,false,false,false,false,false] rfl rfl (one_of HT_.out (by kernel_rfl)) (by decide) (fun K hK => ?_)
             refine goes_ Tryd.func40 (by kernel_rfl) rfl #[.int .i64 x.f0] (by rfl) rfl rfl (by (try simp only [List.map_toArray,List.map_cons,List.map_nil]);first | done | rfl) ?_
             (with_reducible refine (KT.out _).mono ?_)
             rintro e5 w5 ⟨rfl,hb5⟩
             refine ⟨_,rfl,?_⟩
             have hB5 := bl_then hBd hb5
             refine hK.out _ _ (KE.out _ hB5) (fun hHeld => ?_)
             clear hK K
             refine norm_ (a' := ?_) ?_ ?_
             rotate_left
             ·show Act.put _ (some 133) _ = _
              simp only [Act.put,zYTrKa,zYTrKb,zYTrKc]
              rfl
             refine pure_ (i := 3) (N := (some 134)) (v := ?_) (a' := ?_) #[true,true,true,true,false,false,false,false,false,false,false,false,false,false,false,false,false,false,false,false,false,false,false,false,false,false,false,false,false,false,false,false,false,false,false,false,false,false,false,false,false,false,false,false,false,false,false,false,false] rfl rfl (any_of HT_.out (by kernel_rfl)) (fun _ _ _ h => h) (Or.inl ⟨by rfl,?_⟩) ?_ ?_
             rotate_left
             ·intro w'
              go_simp
              with_reducible rfl
             rotate_left
             ·simp only [Act.put,zYTrKa,zYTrKb,zYTrKc]
              rfl
             first
             |(refine pure_ (i := 4) (N := (some 135)) (v := ?_) (a' := ?_) #[true,true,true,true,true,false,false,false,false,false,false,false,false,false,false,false,false,false,false,false,false,false,false,false,false,false,false,false,false,false,false,false,false,false,false,false,false,false,false,false,false,false,false,false,false,false,false,false,false] rfl rfl (any_of HT_.out (by kernel_rfl)) (fun _ _ _ h => h) (Or.inl ⟨by rfl,?_⟩) ?_ ?_
               rotate_left
               ·intro w'
                go_simp
                with_reducible rfl
               rotate_left
               ·simp only [Act.put,zYTrKa,zYTrKb,zYTrKc]
                rfl)
             |(refine pure_ (i := 4) (N := (some 135)) (v := undef) (a' := ?_) #[true,true,true,true,true,false,false,false,false,false,false,false,false,false,false,false,false,false,false,false,false,false,false,false,false,false,false,false,false,false,false,false,false,false,false,false,false,false,false,false,false,false,false,false,false,false,false,false,false] rfl rfl (any_of HT_.out (by kernel_rfl)) (fun _ _ _ h => h) (Or.inr ⟨by rfl,rfl⟩) ?_ ?_
               rotate_left
               ·simp only [Act.put,zYTrKa,zYTrKb,zYTrKc]
                rfl)
             first
             |(refine pure_ (i := 5) (N := (some 136)) (v := ?_) (a' := ?_) #[true,true,true,true,true,true,false,false,false,false,false,false,false,false,false,false,false,false,false,false,false,false,false,false,false,false,false,false,false,false,false,false,false,false,false,false,false,false,false,false,false,false,false,false,false,false,false,false,false] rfl rfl (any_of HT_.out (by kernel_rfl)) (fun _ _ _ h => h) (Or.inl ⟨by rfl,?_⟩) ?_ ?_
               rotate_left
               ·intro w'
                go_simp
                with_reducible rfl
               rotate_left
               ·simp only [Act.put,zYTrKa,zYTrKb,zYTrKc]
                rfl)
             |(refine pure_ (i := 5) (N := (some 136)) (v := undef) (a' := ?_) #[true,true,true,true,true,true,false,false,false,false,false,false,false,false,false,false,false,false,false,false,false,false,false,false,false,false,false,false,false,false,false,false,false,false,false,false,false,false,false,false,false,false,false,false,false,false,false,false,false] rfl rfl (any_of HT_.out (by kernel_rfl)) (fun _ _ _ h => h) (Or.inr ⟨by rfl,rfl⟩) ?_ ?_
               rotate_left
               ·simp only [Act.put,zYTrKa,zYTrKb,zYTrKc]
                rfl)
             refine pure_ (i := 6) (N := (some 137)) (v := ?_) (a' := ?_) #[true,true,true,true,true,true,true,false,false,false,false,false,false,false,false,false,false,false,false,false,false,false,false,false,false,false,false,false,false,false,false,false,false,false,false,false,false,false,false,false,false,false,false,false,false,false,false,false,false] rfl rfl (any_of HT_.out (by kernel_rfl)) (fun _ _ _ h => h) (Or.inl ⟨by rfl,?_⟩) ?_ ?_
             rotate_left
             ·intro w'
              go_simp
              with_reducible rfl
             rotate_left
             ·simp only [Act.put,zYTrKa,zYTrKb,zYTrKc]
              rfl
             refine pure_ (i := 7) (N := (some 138)) (v := ?_) (a' := ?_) #[true,true,true,true,true,true,true,true,false,false,false,false,false,false,false,false,false,false,false,false,false,false,false,false,false,false,false,false,false,false,false,false,false,false,false,false,false,false,false,false,false,false,false,false,false,false,false,false,false] rfl rfl (any_of HT_.out (by kernel_rfl)) (fun _ _ _ h => h) (Or.inl ⟨by rfl,?_⟩) ?_ ?_
             rotate_left
             ·intro w'
              go_simp
              with_reducible rfl
             rotate_left
             ·simp only [Act.put,zYTrKa,zYTrKb,zYTrKc]
              rfl
             first
             |(refine pure_ (i := 8) (N := (some 139)) (v := ?_) (a' := ?_) #[true,true,true,true,true,true,true,true,true,false,false,false,false,false,false,false,false,false,false,false,false,false,false,false,false,false,false,false,false,false,false,false,false,false,false,false,false,false,false,false,false,false,false,false,false,false,false,false,false] rfl rfl (any_of HT_.out (by kernel_rfl)) (fun _ _ _ h => h) (Or.inl ⟨by rfl,?_⟩) ?_ ?_
               rotate_left
               ·intro w'
                go_simp
                with_reducible rfl
               rotate_left
               ·simp only [Act.put,zYTrKa,zYTrKb,zYTrKc]
                rfl)
             |(refine pure_ (i := 8) (N := (some 139)) (v := undef) (a' := ?_) #[true,true,true,true,true,true,true,true,true,false,false,false,false,false,false,false,false,false,false,false,false,false,false,false,false,false,false,false,false,false,false,false,false,false,false,false,false,false,false,false,false,false,false,false,false,false,false,false,false] rfl rfl (any_of HT_.out (by kernel_rfl)) (fun _ _ _ h => h) (Or.inr ⟨by rfl,rfl⟩) ?_ ?_
               rotate_left
               ·simp only [Act.put,zYTrKa,zYTrKb,zYTrKc]
                rfl)
             first
             |(refine pure_ (i := 10) (N := (some 141)) (v := ?_) (a' := ?_) #[true,true,true,true,true,true,true,true,true,false,true,false,false,false,false,false,false,false,false,false,false,false,false,false,false,false,false,false,false,false,false,false,false,false,false,false,false,false,false,false,false,false,false,false,false,false,false,false,false] rfl rfl (any_of HT_.out (by kernel_rfl)) (fun _ _ _ h => h) (Or.inl ⟨by rfl,?_⟩) ?_ ?_
               rotate_left
               ·intro w'
                go_simp
                with_reducible rfl
               rotate_left
               ·simp only [Act.put,zYTrKa,zYTrKb,zYTrKc]
                rfl)
             |(refine pure_ (i := 10) (N := (some 141)) (v := undef) (a' := ?_) #[true,true,true,true,true,true,true,true,true,false,true,false,false,false,false,false,false,false,false,false,false,false,false,false,false,false,false,false,false,false,false,false,false,false,false,false,false,false,false,false,false,false,false,false,false,false,false,false,false] rfl rfl (any_of HT_.out (by kernel_rfl)) (fun _ _ _ h => h) (Or.inr ⟨by rfl,rfl⟩) ?_ ?_
               rotate_left
               ·simp only [Act.put,zYTrKa,zYTrKb,zYTrKc]
                rfl)
             first
             |(refine pure_ (i := 11) (N := (some 142)) (v := ?_) (a' := ?_) #[true,true,true,true,true,true,true,true,true,false,true,true,false,false,false,false,false,false,false,false,false,false,false,false,false,false,false,false,false,false,false,false,false,false,false,false,false,false,false,false,false,false,false,false,false,false,false,false,false] rfl rfl (any_of HT_.out (by kernel_rfl)) (fun _ _ _ h => h) (Or.inl ⟨by rfl,?_⟩) ?_ ?_
               rotate_left
               ·intro w'
                go_simp
                with_reducible rfl
               rotate_left
               ·simp only [Act.put,zYTrKa,zYTrKb,zYTrKc]
                rfl)
             |(refine pure_ (i := 11) (N := (some 142)) (v := undef) (a' := ?_) #[true,true,true,true,true,true,true,true,true,false,true,true,false,false,false,false,false,false,false,false,false,false,false,false,false,false,false,false,false,false,false,false,false,false,false,false,false,false,false,false,false,false,false,false,false,false,false,false,false] rfl rfl (any_of HT_.out (by kernel_rfl)) (fun _ _ _ h => h) (Or.inr ⟨by rfl,rfl⟩) ?_ ?_
               rotate_left
               ·simp only [Act.put,zYTrKa,zYTrKb,zYTrKc]
                rfl)
             first
             |(refine take_ (i := 9) (N := (some 140)) (v := ?_) (a' := ?_) #[true,true,true,true,true,true,true,true,true,true,true,true,false,false,false,false,false,false,false,false,false,false,false,false,false,false,false,false,false,false,false,false,false,false,false,false,false,false,false,false,false,false,false,false,false,false,false,false,false] rfl rfl (take_ofW HT_.out HW_.out (by kernel_rfl)) (fun _ _ _ h => h) (Or.inl ⟨by rfl,?_⟩) hHeld ?_ ?_
               rotate_left
               ·rintro w' ⟨s0,s1,s2,s3,s4,s5,s6,s7,_⟩
                go_simp
                with_reducible rfl
               rotate_left
               ·simp only [Act.put,zYTrKa,zYTrKb,zYTrKc]
                rfl)
             |(refine pure_ (i := 9) (N := (some 140)) (v := undef) (a' := ?_) #[true,true,true,true,true,true,true,true,true,true,true,true,false,false,false,false,false,false,false,false,false,false,false,false,false,false,false,false,false,false,false,false,false,false,false,false,false,false,false,false,false,false,false,false,false,false,false,false,false] rfl rfl (any_of HT_.out (by kernel_rfl)) (fun _ _ _ h => h) (Or.inr ⟨by rfl,rfl⟩) ?_ ?_
               rotate_left
               ·simp only [Act.put,zYTrKa,zYTrKb,zYTrKc]
                rfl)
             first
             |(refine pure_ (i := 12) (N := (some 143)) (v := ?_) (a' := ?_) #[true,true,true,true,true,true,true,true,true,true,true,true,true,false,false,false,false,false,false,false,false,false,false,false,false,false,false,false,false,false,false,false,false,false,false,false,false,false,false,false,false,false,false,false,false,false,false,false,false] rfl rfl (any_of HT_.out (by kernel_rfl)) (fun _ _ _ h => h) (Or.inl ⟨by rfl,?_⟩) ?_ ?_
               rotate_left
               ·intro w'
                go_simp
                with_reducible rfl
               rotate_left
               ·simp only [Act.put,zYTrKa,zYTrKb,zYTrKc]
                rfl)
             |(refine pure_ (i := 12) (N := (some 143)) (v := undef) (a' := ?_) #[true,true,true,true,true,true,true,true,true,true,true,true,true,false,false,false,false,false,false,false,false,false,false,false,false,false,false,false,false,false,false,false,false,false,false,false,false,false,false,false,false,false,false,false,false,false,false,false,false] rfl rfl (any_of HT_.out (by kernel_rfl)) (fun _ _ _ h => h) (Or.inr ⟨by rfl,rfl⟩) ?_ ?_
               rotate_left
               ·simp only [Act.put,zYTrKa,zYTrKb,zYTrKc]
                rfl)
             refine pure_ (i := 13) (N := (some 144)) (v := ?_) (a' := ?_) #[true,true,true,true,true,true,true,true,true,true,true,true,true,true,false,false,false,false,false,false,false,false,false,false,false,false,false,false,false,false,false,false,false,false,false,false,false,false,false,false,false,false,false,false,false,false,false,false,false] rfl rfl (any_of HT_.out (by kernel_rfl)) (fun _ _ _ h => h) (Or.inl ⟨by rfl,?_⟩) ?_ ?_
             rotate_left
             ·intro w'
              go_simp
              with_reducible rfl
             rotate_left
             ·simp only [Act.put,zYTrKa,zYTrKb,zYTrKc]
              rfl
             refine pure_ (i := 14) (N := (some 145)) (v := ?_) (a' := ?_) #[true,true,true,true,true,true,true,true,true,true,true,true,true,true,true,false,false,false,false,false,false,false,false,false,false,false,false,false,false,false,false,false,false,false,false,false,false,false,false,false,false,false,false,false,false,false,false,false,false] rfl rfl (any_of HT_.out (by kernel_rfl)) (fun _ _ _ h => h) (Or.inl ⟨by rfl,?_⟩) ?_ ?_
             rotate_left
             ·intro w'
              go_simp
              with_reducible rfl
             rotate_left
             ·simp only [Act.put,zYTrKa,zYTrKb,zYTrKc]
              rfl
             first
             |(refine pure_ (i := 15) (N := (some 146)) (v := ?_) (a' := ?_) #[true,true,true,true,true,true,true,true,true,true,true,true,true,true,true,true,false,false,false,false,false,false,false,false,false,false,false,false,false,false,false,false,false,false,false,false,false,false,false,false,false,false,false,false,false,false,false,false,false] rfl rfl (any_of HT_.out (by kernel_rfl)) (fun _ _ _ h => h) (Or.inl ⟨by rfl,?_⟩) ?_ ?_
               rotate_left
               ·intro w'
                go_simp
                with_reducible rfl
               rotate_left
               ·simp only [Act.put,zYTrKa,zYTrKb,zYTrKc]
                rfl)
             |(refine pure_ (i := 15) (N := (some 146)) (v := undef) (a' := ?_) #[true,true,true,true,true,true,true,true,true,true,true,true,true,true,true,true,false,false,false,false,false,false,false,false,false,false,false,false,false,false,false,false,false,false,false,false,false,false,false,false,false,false,false,false,false,false,false,false,false] rfl rfl (any_of HT_.out (by kernel_rfl)) (fun _ _ _ h => h) (Or.inr ⟨by rfl,rfl⟩) ?_ ?_
               rotate_left
               ·simp only [Act.put,zYTrKa,zYTrKb,zYTrKc]
                rfl)
             first
             |(refine pure_ (i := 16) (N := (some 147)) (v := ?_) (a' := ?_) #[true,true,true,true,true,true,true,true,true,true,true,true,true,true,true,true,true,false,false,false,false,false,false,false,false,false,false,false,false,false,false,false,false,false,false,false,false,false,false,false,false,false,false,false,false,false,false,false,false] rfl rfl (any_of HT_.out (by kernel_rfl)) (fun _ _ _ h => h) (Or.inl ⟨by rfl,?_⟩) ?_ ?_
               rotate_left
               ·intro w'
                go_simp
                with_reducible rfl
               rotate_left
               ·simp only [Act.put,zYTrKa,zYTrKb,zYTrKc]
                rfl)
             |(refine pure_ (i := 16) (N := (some 147)) (v := undef) (a' := ?_) #[true,true,true,true,true,true,true,true,true,true,true,true,true,true,true,true,true,false,false,false,false,false,false,false,false,false,false,false,false,false,false,false,false,false,false,false,false,false,false,false,false,false,false,false,false,false,false,false,false] rfl rfl (any_of HT_.out (by kernel_rfl)) (fun _ _ _ h => h) (Or.inr ⟨by rfl,rfl⟩) ?_ ?_
               rotate_left
               ·simp only [Act.put,zYTrKa,zYTrKb,zYTrKc]
                rfl)
             first
             |(refine pure_ (i := 17) (N := (some 148)) (v := ?_) (a' := ?_) #[true,true,true,true,true,true,true,true,true,true,true,true,true,true,true,true,true,true,false,false,false,false,false,false,false,false,false,false,false,false,false,false,false,false,false,false,false,false,false,false,false,false,false,false,false,false,false,false,false] rfl rfl (any_of HT_.out (by kernel_rfl)) (fun _ _ _ h => h) (Or.inl ⟨by rfl,?_⟩) ?_ ?_
               rotate_left
               ·intro w'
                go_simp
                with_reducible rfl
               rotate_left
               ·simp only [Act.put,zYTrKa,zYTrKb,zYTrKc]
                rfl)
             |(refine pure_ (i := 17) (N := (some 148)) (v := undef) (a' := ?_) #[true,true,true,true,true,true,true,true,true,true,true,true,true,true,true,true,true,true,false,false,false,false,false,false,false,false,false,false,false,false,false,false,false,false,false,false,false,false,false,false,false,false,false,false,false,false,false,false,false] rfl rfl (any_of HT_.out (by kernel_rfl)) (fun _ _ _ h => h) (Or.inr ⟨by rfl,rfl⟩) ?_ ?_
               rotate_left
               ·simp only [Act.put,zYTrKa,zYTrKb,zYTrKc]
                rfl)
             first
             |(refine pure_ (i := 18) (N := (some 149)) (v := ?_) (a' := ?_) #[true,true,true,true,true,true,true,true,true,true,true,true,true,true,true,true,true,true,true,false,false,false,false,false,false,false,false,false,false,false,false,false,false,false,false,false,false,false,false,false,false,false,false,false,false,false,false,false,false] rfl rfl (any_of HT_.out (by kernel_rfl)) (fun _ _ _ h => h) (Or.inl ⟨by rfl,?_⟩) ?_ ?_
               rotate_left
               ·intro w'
                go_simp
                with_reducible rfl
               rotate_left
               ·simp only [Act.put,zYTrKa,zYTrKb,zYTrKc]
                rfl)
             |(refine pure_ (i := 18) (N := (some 149)) (v := undef) (a' := ?_) #[true,true,true,true,true,true,true,true,true,true,true,true,true,true,true,true,true,true,true,false,false,false,false,false,false,false,false,false,false,false,false,false,false,false,false,false,false,false,false,false,false,false,false,false,false,false,false,false,false] rfl rfl (any_of HT_.out (by kernel_rfl)) (fun _ _ _ h => h) (Or.inr ⟨by rfl,rfl⟩) ?_ ?_
               rotate_left
               ·simp only [Act.put,zYTrKa,zYTrKb,zYTrKc]
                rfl)
             first
             |(refine take_ (i := 19) (N := (some 150)) (v := ?_) (a' := ?_) #[true,true,true,true,true,true,true,true,true,true,true,true,true,true,true,true,true,true,true,true,false,false,false,false,false,false,false,false,false,false,false,false,false,false,false,false,false,false,false,false,false,false,false,false,false,false,false,false,false] rfl rfl (take_ofW HT_.out HW_.out (by kernel_rfl)) (fun _ _ _ h => h) (Or.inl ⟨by rfl,?_⟩) hHeld ?_ ?_
               rotate_left
               ·rintro w' ⟨s0,s1,s2,s3,s4,s5,s6,s7,_⟩
                go_simp
                with_reducible rfl
               rotate_left
               ·simp only [Act.put,zYTrKa,zYTrKb,zYTrKc]
                rfl)
             |(refine pure_ (i := 19) (N := (some 150)) (v := undef) (a' := ?_) #[true,true,true,true,true,true,true,true,true,true,true,true,true,true,true,true,true,true,true,true,false,false,false,false,false,false,false,false,false,false,false,false,false,false,false,false,false,false,false,false,false,false,false,false,false,false,false,false,false] rfl rfl (any_of HT_.out (by kernel_rfl)) (fun _ _ _ h => h) (Or.inr ⟨by rfl,rfl⟩) ?_ ?_
               rotate_left
               ·simp only [Act.put,zYTrKa,zYTrKb,zYTrKc]
                rfl)
             first
             |(refine pure_ (i := 20) (N := (some 151)) (v := ?_) (a' := ?_) #[true,true,true,true,true,true,true,true,true,true,true,true,true,true,true,true,true,true,true,true,true,false,false,false,false,false,false,false,false,false,false,false,false,false,false,false,false,false,false,false,false,false,false,false,false,false,false,false,false] rfl rfl (any_of HT_.out (by kernel_rfl)) (fun _ _ _ h => h) (Or.inl ⟨by rfl,?_⟩) ?_ ?_
               rotate_left
               ·intro w'
                go_simp
                with_reducible rfl
               rotate_left
               ·simp only [Act.put,zYTrKa,zYTrKb,zYTrKc]
                rfl)
             |(refine pure_ (i := 20) (N := (some 151)) (v := undef) (a' := ?_) #[true,true,true,true,true,true,true,true,true,true,true,true,true,true,true,true,true,true,true,true,true,false,false,false,false,false,false,false,false,false,false,false,false,false,false,false,false,false,false,false,false,false,false,false,false,false,false,false,false] rfl rfl (any_of HT_.out (by kernel_rfl)) (fun _ _ _ h => h) (Or.inr ⟨by rfl,rfl⟩) ?_ ?_
               rotate_left
               ·simp only [Act.put,zYTrKa,zYTrKb,zYTrKc]
                rfl)
             refine pure_ (i := 21) (N := (some 152)) (v := ?_) (a' := ?_) #[true,true,true,true,true,true,true,true,true,true,true,true,true,true,true,true,true,true,true,true,true,true,false,false,false,false,false,false,false,false,false,false,false,false,false,false,false,false,false,false,false,false,false,false,false,false,false,false,false] rfl rfl (any_of HT_.out (by kernel_rfl)) (fun _ _ _ h => h) (Or.inl ⟨by rfl,?_⟩) ?_ ?_
             rotate_left
             ·intro w'
              go_simp
              with_reducible rfl
             rotate_left
             ·simp only [Act.put,zYTrKa,zYTrKb,zYTrKc]
              rfl
             refine pure_ (i := 22) (N := (some 153)) (v := ?_) (a' := ?_) #[true,true,true,true,true,true,true,true,true,true,true,true,true,true,true,true,true,true,true,true,true,true,true,false,false,false,false,false,false,false,false,false,false,false,false,false,false,false,false,false,false,false,false,false,false,false,false,false,false] rfl rfl (any_of HT_.out (by kernel_rfl)) (fun _ _ _ h => h) (Or.inl ⟨by rfl,?_⟩) ?_ ?_
             rotate_left
             ·intro w'
              go_simp
              with_reducible rfl
             rotate_left
             ·simp only [Act.put,zYTrKa,zYTrKb,zYTrKc]
              rfl
             first
             |(refine pure_ (i := 23) (N := (some 154)) (v := ?_) (a' := ?_) #[true,true,true,true,true,true,true,true,true,true,true,true,true,true,true,true,true,true,true,true,true,true,true,true,false,false,false,false,false,false,false,false,false,false,false,false,false,false,false,false,false,false,false,false,false,false,false,false,false] rfl rfl (any_of HT_.out (by kernel_rfl)) (fun _ _ _ h => h) (Or.inl ⟨by rfl,?_⟩) ?_ ?_
               rotate_left
               ·intro w'
                go_simp
                with_reducible rfl
               rotate_left
               ·simp only [Act.put,zYTrKa,zYTrKb,zYTrKc]
                rfl)
             |(refine pure_ (i := 23) (N := (some 154)) (v := undef) (a' := ?_) #[true,true,true,true,true,true,true,true,true,true,true,true,true,true,true,true,true,true,true,true,true,true,true,true,false,false,false,false,false,false,false,false,false,false,false,false,false,false,false,false,false,false,false,false,false,false,false,false,false] rfl rfl (any_of HT_.out (by kernel_rfl)) (fun _ _ _ h => h) (Or.inr ⟨by rfl,rfl⟩) ?_ ?_
               rotate_left
               ·simp only [Act.put,zYTrKa,zYTrKb,zYTrKc]
                rfl)
             first
             |(refine pure_ (i := 25) (N := (some 156)) (v := ?_) (a' := ?_) #[true,true,true,true,true,true,true,true,true,true,true,true,true,true,true,true,true,true,true,true,true,true,true,true,false,true,false,false,false,false,false,false,false,false,false,false,false,false,false,false,false,false,false,false,false,false,false,false,false] rfl rfl (any_of HT_.out (by kernel_rfl)) (fun _ _ _ h => h) (Or.inl ⟨by rfl,?_⟩) ?_ ?_
               rotate_left
               ·intro w'
                go_simp
                with_reducible rfl
               rotate_left
               ·simp only [Act.put,zYTrKa,zYTrKb,zYTrKc]
                rfl)
             |(refine pure_ (i := 25) (N := (some 156)) (v := undef) (a' := ?_) #[true,true,true,true,true,true,true,true,true,true,true,true,true,true,true,true,true,true,true,true,true,true,true,true,false,true,false,false,false,false,false,false,false,false,false,false,false,false,false,false,false,false,false,false,false,false,false,false,false] rfl rfl (any_of HT_.out (by kernel_rfl)) (fun _ _ _ h => h) (Or.inr ⟨by rfl,rfl⟩) ?_ ?_
               rotate_left
               ·simp only [Act.put,zYTrKa,zYTrKb,zYTrKc]
                rfl)
             first
             |(refine pure_ (i := 26) (N := (some 157)) (v := ?_) (a' := ?_) #[true,true,true,true,true,true,true,true,true,true,true,true,true,true,true,true,true,true,true,true,true,true,true,true,false,true,true,false,false,false,false,false,false,false,false,false,false,false,false,false,false,false,false,false,false,false,false,false,false] rfl rfl (any_of HT_.out (by kernel_rfl)) (fun _ _ _ h => h) (Or.inl ⟨by rfl,?_⟩) ?_ ?_
               rotate_left
               ·intro w'
                go_simp
                with_reducible rfl
               rotate_left
               ·simp only [Act.put,zYTrKa,zYTrKb,zYTrKc]
                rfl)
             |(refine pure_ (i := 26) (N := (some 157)) (v := undef) (a' := ?_) #[true,true,true,true,true,true,true,true,true,true,true,true,true,true,true,true,true,true,true,true,true,true,true,true,false,true,true,false,false,false,false,false,false,false,false,false,false,false,false,false,false,false,false,false,false,false,false,false,false] rfl rfl (any_of HT_.out (by kernel_rfl)) (fun _ _ _ h => h) (Or.inr ⟨by rfl,rfl⟩) ?_ ?_
               rotate_left
               ·simp only [Act.put,zYTrKa,zYTrKb,zYTrKc]
                rfl)
             first
             |(refine pure_ (i := 27) (N := (some 158)) (v := ?_) (a' := ?_) #[true,true,true,true,true,true,true,true,true,true,true,true,true,true,true,true,true,true,true,true,true,true,true,true,false,true,true,true,false,false,false,false,false,false,false,false,false,false,false,false,false,false,false,false,false,false,false,false,false] rfl rfl (any_of HT_.out (by kernel_rfl)) (fun _ _ _ h => h) (Or.inl ⟨by rfl,?_⟩) ?_ ?_
               rotate_left
               ·intro w'
                go_simp
                with_reducible rfl
               rotate_left
               ·simp only [Act.put,zYTrKa,zYTrKb,zYTrKc]
                rfl)
             |(refine pure_ (i := 27) (N := (some 158)) (v := undef) (a' := ?_) #[true,true,true,true,true,true,true,true,true,true,true,true,true,true,true,true,true,true,true,true,true,true,true,true,false,true,true,true,false,false,false,false,false,false,false,false,false,false,false,false,false,false,false,false,false,false,false,false,false] rfl rfl (any_of HT_.out (by kernel_rfl)) (fun _ _ _ h => h) (Or.inr ⟨by rfl,rfl⟩) ?_ ?_
               rotate_left
               ·simp only [Act.put,zYTrKa,zYTrKb,zYTrKc]
                rfl)
             first
             |(refine pure_ (i := 28) (N := (some 159)) (v := ?_) (a' := ?_) #[true,true,true,true,true,true,true,true,true,true,true,true,true,true,true,true,true,true,true,true,true,true,true,true,false,true,true,true,true,false,false,false,false,false,false,false,false,false,false,false,false,false,false,false,false,false,false,false,false] rfl rfl (any_of HT_.out (by kernel_rfl)) (fun _ _ _ h => h) (Or.inl ⟨by rfl,?_⟩) ?_ ?_
               rotate_left
               ·intro w'
                go_simp
                with_reducible rfl
               rotate_left
               ·simp only [Act.put,zYTrKa,zYTrKb,zYTrKc]
                rfl)
             |(refine pure_ (i := 28) (N := (some 159)) (v := undef) (a' := ?_) #[true,true,true,true,true,true,true,true,true,true,true,true,true,true,true,true,true,true,true,true,true,true,true,true,false,true,true,true,true,false,false,false,false,false,false,false,false,false,false,false,false,false,false,false,false,false,false,false,false] rfl rfl (any_of HT_.out (by kernel_rfl)) (fun _ _ _ h => h) (Or.inr ⟨by rfl,rfl⟩) ?_ ?_
               rotate_left
               ·simp only [Act.put,zYTrKa,zYTrKb,zYTrKc]
                rfl)
             first
             |(refine take_ (i := 24) (N := (some 155)) (v := ?_) (a' := ?_) #[true,true,true,true,true,true,true,true,true,true,true,true,true,true,true,true,true,true,true,true,true,true,true,true,true,true,true,true,true,false,false,false,false,false,false,false,false,false,false,false,false,false,false,false,false,false,false,false,false] rfl rfl (take_ofW HT_.out HW_.out (by kernel_rfl)) (fun _ _ _ h => h) (Or.inl ⟨by rfl,?_⟩) hHeld ?_ ?_
               rotate_left
               ·rintro w' ⟨s0,s1,s2,s3,s4,s5,s6,s7,_⟩
                go_simp
                with_reducible rfl
               rotate_left
               ·simp only [Act.put,zYTrKa,zYTrKb,zYTrKc]
                rfl)
             |(refine pure_ (i := 24) (N := (some 155)) (v := undef) (a' := ?_) #[true,true,true,true,true,true,true,true,true,true,true,true,true,true,true,true,true,true,true,true,true,true,true,true,true,true,true,true,true,false,false,false,false,false,false,false,false,false,false,false,false,false,false,false,false,false,false,false,false] rfl rfl (any_of HT_.out (by kernel_rfl)) (fun _ _ _ h => h) (Or.inr ⟨by rfl,rfl⟩) ?_ ?_
               rotate_left
               ·simp only [Act.put,zYTrKa,zYTrKb,zYTrKc]
                rfl)
             first
             |(refine take_ (i := 29) (N := (some 160)) (v := ?_) (a' := ?_) #[true,true,true,true,true,true,true,true,true,true,true,true,true,true,true,true,true,true,true,true,true,true,true,true,true,true,true,true,true,true,false,false,false,false,false,false,false,false,false,false,false,false,false,false,false,false,false,false,false] rfl rfl (take_ofW HT_.out HW_.out (by kernel_rfl)) (fun _ _ _ h => h) (Or.inl ⟨by rfl,?_⟩) hHeld ?_ ?_
               rotate_left
               ·rintro w' ⟨s0,s1,s2,s3,s4,s5,s6,s7,_⟩
                go_simp
                with_reducible rfl
               rotate_left
               ·simp only [Act.put,zYTrKa,zYTrKb,zYTrKc]
                rfl)
             |(refine pure_ (i := 29) (N := (some 160)) (v := undef) (a' := ?_) #[true,true,true,true,true,true,true,true,true,true,true,true,true,true,true,true,true,true,true,true,true,true,true,true,true,true,true,true,true,true,false,false,false,false,false,false,false,false,false,false,false,false,false,false,false,false,false,false,false] rfl rfl (any_of HT_.out (by kernel_rfl)) (fun _ _ _ h => h) (Or.inr ⟨by rfl,rfl⟩) ?_ ?_
               rotate_left
               ·simp only [Act.put,zYTrKa,zYTrKb,zYTrKc]
                rfl)
             first
             |(refine pure_ (i := 30) (N := (some 161)) (v := ?_) (a' := ?_) #[true,true,true,true,true,true,true,true,true,true,true,true,true,true,true,true,true,true,true,true,true,true,true,true,true,true,true,true,true,true,true,false,false,false,false,false,false,false,false,false,false,false,false,false,false,false,false,false,false] rfl rfl (any_of HT_.out (by kernel_rfl)) (fun _ _ _ h => h) (Or.inl ⟨by rfl,?_⟩) ?_ ?_
               rotate_left
               ·intro w'
                go_simp
                with_reducible rfl
               rotate_left
               ·simp only [Act.put,zYTrKa,zYTrKb,zYTrKc]
                rfl)
             |(refine pure_ (i := 30) (N := (some 161)) (v := undef) (a' := ?_) #[true,true,true,true,true,true,true,true,true,true,true,true,true,true,true,true,true,true,true,true,true,true,true,true,true,true,true,true,true,true,true,false,false,false,false,false,false,false,false,false,false,false,false,false,false,false,false,false,false] rfl rfl (any_of HT_.out (by kernel_rfl)) (fun _ _ _ h => h) (Or.inr ⟨by rfl,rfl⟩) ?_ ?_
               rotate_left
               ·simp only [Act.put,zYTrKa,zYTrKb,zYTrKc]
                rfl)
             first
             |(refine pure_ (i := 31) (N := (some 162)) (v := ?_) (a' := ?_) #[true,true,true,true,true,true,true,true,true,true,true,true,true,true,true,true,true,true,true,true,true,true,true,true,true,true,true,true,true,true,true,true,false,false,false,false,false,false,false,false,false,false,false,false,false,false,false,false,false] rfl rfl (any_of HT_.out (by kernel_rfl)) (fun _ _ _ h => h) (Or.inl ⟨by rfl,?_⟩) ?_ ?_
               rotate_left
               ·intro w'
                go_simp
                with_reducible rfl
               rotate_left
               ·simp only [Act.put,zYTrKa,zYTrKb,zYTrKc]
                rfl)
             |(refine pure_ (i := 31) (N := (some 162)) (v := undef) (a' := ?_) #[true,true,true,true,true,true,true,true,true,true,true,true,true,true,true,true,true,true,true,true,true,true,true,true,true,true,true,true,true,true,true,true,false,false,false,false,false,false,false,false,false,false,false,false,false,false,false,false,false] rfl rfl (any_of HT_.out (by kernel_rfl)) (fun _ _ _ h => h) (Or.inr ⟨by rfl,rfl⟩) ?_ ?_
               rotate_left
               ·simp only [Act.put,zYTrKa,zYTrKb,zYTrKc]
                rfl)
             refine pure_ (i := 32) (N := (some 163)) (v := ?_) (a' := ?_) #[true,true,true,true,true,true,true,true,true,true,true,true,true,true,true,true,true,true,true,true,true,true,true,true,true,true,true,true,true,true,true,true,true,false,false,false,false,false,false,false,false,false,false,false,false,false,false,false,false] rfl rfl (any_of HT_.out (by kernel_rfl)) (fun _ _ _ h => h) (Or.inl ⟨by rfl,?_⟩) ?_ ?_
             rotate_left
             ·intro w'
              go_simp
              with_reducible rfl
             rotate_left
             ·simp only [Act.put,zYTrKa,zYTrKb,zYTrKc]
              rfl
             refine pure_ (i := 33) (N := (some 164)) (v := ?_) (a' := ?_) #[true,true,true,true,true,true,true,true,true,true,true,true,true,true,true,true,true,true,true,true,true,true,true,true,true,true,true,true,true,true,true,true,true,true,false,false,false,false,false,false,false,false,false,false,false,false,false,false,false] rfl rfl (any_of HT_.out (by kernel_rfl)) (fun _ _ _ h => h) (Or.inl ⟨by rfl,?_⟩) ?_ ?_
             rotate_left
             ·intro w'
              go_simp
              with_reducible rfl
             rotate_left
             ·simp only [Act.put,zYTrKa,zYTrKb,zYTrKc]
              rfl
             first
             |(refine pure_ (i := 34) (N := (some 165)) (v := ?_) (a' := ?_) #[true,true,true,true,true,true,true,true,true,true,true,true,true,true,true,true,true,true,true,true,true,true,true,true,true,true,true,true,true,true,true,true,true,true,true,false,false,false,false,false,false,false,false,false,false,false,false,false,false] rfl rfl (any_of HT_.out (by kernel_rfl)) (fun _ _ _ h => h) (Or.inl ⟨by rfl,?_⟩) ?_ ?_
               rotate_left
               ·intro w'
                go_simp
                with_reducible rfl
               rotate_left
               ·simp only [Act.put,zYTrKa,zYTrKb,zYTrKc]
                rfl)
             |(refine pure_ (i := 34) (N := (some 165)) (v := undef) (a' := ?_) #[true,true,true,true,true,true,true,true,true,true,true,true,true,true,true,true,true,true,true,true,true,true,true,true,true,true,true,true,true,true,true,true,true,true,true,false,false,false,false,false,false,false,false,false,false,false,false,false,false] rfl rfl (any_of HT_.out (by kernel_rfl)) (fun _ _ _ h => h) (Or.inr ⟨by rfl,rfl⟩) ?_ ?_
               rotate_left
               ·simp only [Act.put,zYTrKa,zYTrKb,zYTrKc]
                rfl)
             first
             |(refine take_ (i := 35) (N := (some 166)) (v := ?_) (a' := ?_) #[true,true,true,true,true,true,true,true,true,true,true,true,true,true,true,true,true,true,true,true,true,true,true,true,true,true,true,true,true,true,true,true,true,true,true,true,false,false,false,false,false,false,false,false,false,false,false,false,false] rfl rfl (take_ofW HT_.out HW_.out (by kernel_rfl)) (fun _ _ _ h => h) (Or.inl ⟨by rfl,?_⟩) hHeld ?_ ?_
               rotate_left
               ·rintro w' ⟨s0,s1,s2,s3,s4,s5,s6,s7,_⟩
                go_simp
                with_reducible rfl
               rotate_left
               ·simp only [Act.put,zYTrKa,zYTrKb,zYTrKc]
                rfl)
             |(refine pure_ (i := 35) (N := (some 166)) (v := undef) (a' := ?_) #[true,true,true,true,true,true,true,true,true,true,true,true,true,true,true,true,true,true,true,true,true,true,true,true,true,true,true,true,true,true,true,true,true,true,true,true,false,false,false,false,false,false,false,false,false,false,false,false,false] rfl rfl (any_of HT_.out (by kernel_rfl)) (fun _ _ _ h => h) (Or.inr ⟨by rfl,rfl⟩) ?_ ?_
               rotate_left
               ·simp only [Act.put,zYTrKa,zYTrKb,zYTrKc]
                rfl)
             first
             |(refine pure_ (i := 36) (N := (some 167)) (v := ?_) (a' := ?_) #[true,true,true,true,true,true,true,true,true,true,true,true,true,true,true,true,true,true,true,true,true,true,true,true,true,true,true,true,true,true,true,true,true,true,true,true,true,false,false,false,false,false,false,false,false,false,false,false,false] rfl rfl (any_of HT_.out (by kernel_rfl)) (fun _ _ _ h => h) (Or.inl ⟨by rfl,?_⟩) ?_ ?_
               rotate_left
               ·intro w'
                go_simp
                with_reducible rfl
               rotate_left
               ·simp only [Act.put,zYTrKa,zYTrKb,zYTrKc]
                rfl)
             |(refine pure_ (i := 36) (N := (some 167)) (v := undef) (a' := ?_) #[true,true,true,true,true,true,true,true,true,true,true,true,true,true,true,true,true,true,true,true,true,true,true,true,true,true,true,true,true,true,true,true,true,true,true,true,true,false,false,false,false,false,false,false,false,false,false,false,false] rfl rfl (any_of HT_.out (by kernel_rfl)) (fun _ _ _ h => h) (Or.inr ⟨by rfl,rfl⟩) ?_ ?_
               rotate_left
               ·simp only [Act.put,zYTrKa,zYTrKb,zYTrKc]
                rfl)
             refine pure_ (i := 37) (N := (some 168)) (v := ?_) (a' := ?_) #[true,true,true,true,true,true,true,true,true,true,true,true,true,true,true,true,true,true,true,true,true,true,true,true,true,true,true,true,true,true,true,true,true,true,true,true,true,true,false,false,false,false,false,false,false,false,false,false,false] rfl rfl (any_of HT_.out (by kernel_rfl)) (fun _ _ _ h => h) (Or.inl ⟨by rfl,?_⟩) ?_ ?_
             rotate_left
             ·intro w'
              go_simp
              with_reducible rfl
             rotate_left
             ·simp only [Act.put,zYTrKa,zYTrKb,zYTrKc]
              rfl
             refine pure_ (i := 38) (N := (some 169)) (v := ?_) (a' := ?_) #[true,true,true,true,true,true,true,true,true,true,true,true,true,true,true,true,true,true,true,true,true,true,true,true,true,true,true,true,true,true,true,true,true,true,true,true,true,true,true,false,false,false,false,false,false,false,false,false,false] rfl rfl (any_of HT_.out (by kernel_rfl)) (fun _ _ _ h => h) (Or.inl ⟨by rfl,?_⟩) ?_ ?_
             rotate_left
             ·intro w'
              go_simp
              with_reducible rfl
             rotate_left
             ·simp only [Act.put,zYTrKa,zYTrKb,zYTrKc]
              rfl
             first
             |(refine pure_ (i := 39) (N := (some 170)) (v := ?_) (a' := ?_) #[true,true,true,true,true,true,true,true,true,true,true,true,true,true,true,true,true,true,true,true,true,true,true,true,true,true,true,true,true,true,true,true,true,true,true,true,true,true,true,true,false,false,false,false,false,false,false,false,false] rfl rfl (any_of HT_.out (by kernel_rfl)) (fun _ _ _ h => h) (Or.inl ⟨by rfl,?_⟩) ?_ ?_
               rotate_left
               ·intro w'
                go_simp
                with_reducible rfl
               rotate_left
               ·simp only [Act.put,zYTrKa,zYTrKb,zYTrKc]
                rfl)
             |(refine pure_ (i := 39) (N := (some 170)) (v := undef) (a' := ?_) #[true,true,true,true,true,true,true,true,true,true,true,true,true,true,true,true,true,true,true,true,true,true,true,true,true,true,true,true,true,true,true,true,true,true,true,true,true,true,true,true,false,false,false,false,false,false,false,false,false] rfl rfl (any_of HT_.out (by kernel_rfl)) (fun _ _ _ h => h) (Or.inr ⟨by rfl,rfl⟩) ?_ ?_
               rotate_left
               ·simp only [Act.put,zYTrKa,zYTrKb,zYTrKc]
                rfl)
             first
             |(refine take_ (i := 40) (N := (some 171)) (v := ?_) (a' := ?_) #[true,true,true,true,true,true,true,true,true,true,true,true,true,true,true,true,true,true,true,true,true,true,true,true,true,true,true,true,true,true,true,true,true,true,true,true,true,true,true,true,true,false,false,false,false,false,false,false,false] rfl rfl (take_ofW HT_.out HW_.out (by kernel_rfl)) (fun _ _ _ h => h) (Or.inl ⟨by rfl,?_⟩) hHeld ?_ ?_
               rotate_left
               ·rintro w' ⟨s0,s1,s2,s3,s4,s5,s6,s7,_⟩
                go_simp
                with_reducible rfl
               rotate_left
               ·simp only [Act.put,zYTrKa,zYTrKb,zYTrKc]
                rfl)
             |(refine pure_ (i := 40) (N := (some 171)) (v := undef) (a' := ?_) #[true,true,true,true,true,true,true,true,true,true,true,true,true,true,true,true,true,true,true,true,true,true,true,true,true,true,true,true,true,true,true,true,true,true,true,true,true,true,true,true,true,false,false,false,false,false,false,false,false] rfl rfl (any_of HT_.out (by kernel_rfl)) (fun _ _ _ h => h) (Or.inr ⟨by rfl,rfl⟩) ?_ ?_
               rotate_left
               ·simp only [Act.put,zYTrKa,zYTrKb,zYTrKc]
                rfl)
             first
             |(refine pure_ (i := 41) (N := (some 172)) (v := ?_) (a' := ?_) #[true,true,true,true,true,true,true,true,true,true,true,true,true,true,true,true,true,true,true,true,true,true,true,true,true,true,true,true,true,true,true,true,true,true,true,true,true,true,true,true,true,true,false,false,false,false,false,false,false] rfl rfl (any_of HT_.out (by kernel_rfl)) (fun _ _ _ h => h) (Or.inl ⟨by rfl,?_⟩) ?_ ?_
               rotate_left
               ·intro w'
                go_simp
                with_reducible rfl
               rotate_left
               ·simp only [Act.put,zYTrKa,zYTrKb,zYTrKc]
                rfl)
             |(refine pure_ (i := 41) (N := (some 172)) (v := undef) (a' := ?_) #[true,true,true,true,true,true,true,true,true,true,true,true,true,true,true,true,true,true,true,true,true,true,true,true,true,true,true,true,true,true,true,true,true,true,true,true,true,true,true,true,true,true,false,false,false,false,false,false,false] rfl rfl (any_of HT_.out (by kernel_rfl)) (fun _ _ _ h => h) (Or.inr ⟨by rfl,rfl⟩) ?_ ?_
               rotate_left
               ·simp only [Act.put,zYTrKa,zYTrKb,zYTrKc]
                rfl)
             refine pure_ (i := 42) (N := (some 173)) (v := ?_) (a' := ?_) #[true,true,true,true,true,true,true,true,true,true,true,true,true,true,true,true,true,true,true,true,true,true,true,true,true,true,true,true,true,true,true,true,true,true,true,true,true,true,true,true,true,true,true,false,false,false,false,false,false] rfl rfl (any_of HT_.out (by kernel_rfl)) (fun _ _ _ h => h) (Or.inl ⟨by rfl,?_⟩) ?_ ?_
             rotate_left
             ·intro w'
              go_simp
              with_reducible rfl
             rotate_left
             ·simp only [Act.put,zYTrKa,zYTrKb,zYTrKc]
              rfl
             refine pure_ (i := 43) (N := (some 174)) (v := ?_) (a' := ?_) #[true,true,true,true,true,true,true,true,true,true,true,true,true,true,true,true,true,true,true,true,true,true,true,true,true,true,true,true,true,true,true,true,true,true,true,true,true,true,true,true,true,true,true,true,false,false,false,false,false] rfl rfl (any_of HT_.out (by kernel_rfl)) (fun _ _ _ h => h) (Or.inl ⟨by rfl,?_⟩) ?_ ?_
             rotate_left
             ·intro w'
              go_simp
              with_reducible rfl
             rotate_left
             ·simp only [Act.put,zYTrKa,zYTrKb,zYTrKc]
              rfl
             first
             |(refine pure_ (i := 44) (N := (some 175)) (v := ?_) (a' := ?_) #[true,true,true,true,true,true,true,true,true,true,true,true,true,true,true,true,true,true,true,true,true,true,true,true,true,true,true,true,true,true,true,true,true,true,true,true,true,true,true,true,true,true,true,true,true,false,false,false,false] rfl rfl (any_of HT_.out (by kernel_rfl)) (fun _ _ _ h => h) (Or.inl ⟨by rfl,?_⟩) ?_ ?_
               rotate_left
               ·intro w'
                go_simp
                with_reducible rfl
               rotate_left
               ·simp only [Act.put,zYTrKa,zYTrKb,zYTrKc]
                rfl)
             |(refine pure_ (i := 44) (N := (some 175)) (v := undef) (a' := ?_) #[true,true,true,true,true,true,true,true,true,true,true,true,true,true,true,true,true,true,true,true,true,true,true,true,true,true,true,true,true,true,true,true,true,true,true,true,true,true,true,true,true,true,true,true,true,false,false,false,false] rfl rfl (any_of HT_.out (by kernel_rfl)) (fun _ _ _ h => h) (Or.inr ⟨by rfl,rfl⟩) ?_ ?_
               rotate_left
               ·simp only [Act.put,zYTrKa,zYTrKb,zYTrKc]
                rfl)
             first
             |(refine take_ (i := 45) (N := (some 176)) (v := ?_) (a' := ?_) #[true,true,true,true,true,true,true,true,true,true,true,true,true,true,true,true,true,true,true,true,true,true,true,true,true,true,true,true,true,true,true,true,true,true,true,true,true,true,true,true,true,true,true,true,true,true,false,false,false] rfl rfl (take_ofW HT_.out HW_.out (by kernel_rfl)) (fun _ _ _ h => h) (Or.inl ⟨by rfl,?_⟩) hHeld ?_ ?_
               rotate_left
               ·rintro w' ⟨s0,s1,s2,s3,s4,s5,s6,s7,_⟩
                go_simp
                with_reducible rfl
               rotate_left
               ·simp only [Act.put,zYTrKa,zYTrKb,zYTrKc]
                rfl)
             |(refine pure_ (i := 45) (N := (some 176)) (v := undef) (a' := ?_) #[true,true,true,true,true,true,true,true,true,true,true,true,true,true,true,true,true,true,true,true,true,true,true,true,true,true,true,true,true,true,true,true,true,true,true,true,true,true,true,true,true,true,true,true,true,true,false,false,false] rfl rfl (any_of HT_.out (by kernel_rfl)) (fun _ _ _ h => h) (Or.inr ⟨by rfl,rfl⟩) ?_ ?_
               rotate_left
               ·simp only [Act.put,zYTrKa,zYTrKb,zYTrKc]
                rfl)
             first
             |(refine pure_ (i := 46) (N := (some 177)) (v := ?_) (a' := ?_) #[true,true,true,true,true,true,true,true,true,true,true,true,true,true,true,true,true,true,true,true,true,true,true,true,true,true,true,true,true,true,true,true,true,true,true,true,true,true,true,true,true,true,true,true,true,true,true,false,false] rfl rfl (any_of HT_.out (by kernel_rfl)) (fun _ _ _ h => h) (Or.inl ⟨by rfl,?_⟩) ?_ ?_
               rotate_left
               ·intro w'
                go_simp
                with_reducible rfl
               rotate_left
               ·simp only [Act.put,zYTrKa,zYTrKb,zYTrKc]
                rfl)
             |(refine pure_ (i := 46) (N := (some 177)) (v := undef) (a' := ?_) #[true,true,true,true,true,true,true,true,true,true,true,true,true,true,true,true,true,true,true,true,true,true,true,true,true,true,true,true,true,true,true,true,true,true,true,true,true,true,true,true,true,true,true,true,true,true,true,false,false] rfl rfl (any_of HT_.out (by kernel_rfl)) (fun _ _ _ h => h) (Or.inr ⟨by rfl,rfl⟩) ?_ ?_
               rotate_left
               ·simp only [Act.put,zYTrKa,zYTrKb,zYTrKc]
                rfl)
             refine pure_ (i := 47) (N := (some 178)) (v := ?_) (a' := ?_) #[true,true,true,true,true,true,true,true,true,true,true,true,true,true,true,true,true,true,true,true,true,true,true,true,true,true,true,true,true,true,true,true,true,true,true,true,true,true,true,true,true,true,true,true,true,true,true,true,false] rfl rfl (any_of HT_.out (by kernel_rfl)) (fun _ _ _ h => h) (Or.inl ⟨by rfl,?_⟩) ?_ ?_
             rotate_left
             ·intro w'
              go_simp
              with_reducible rfl
             rotate_left
             ·simp only [Act.put,zYTrKa,zYTrKb,zYTrKc]
              rfl
             refine pure_ (i := 48) (N := (some 130)) (v := ?_) (a' := ?_) #[true,true,true,true,true,true,true,true,true,true,true,true,true,true,true,true,true,true,true,true,true,true,true,true,true,true,true,true,true,true,true,true,true,true,true,true,true,true,true,true,true,true,true,true,true,true,true,true,true] rfl rfl (any_of HT_.out (by kernel_rfl)) (fun _ _ _ h => h) (Or.inl ⟨by rfl,?_⟩) ?_ ?_
             rotate_left
             ·intro w'
              go_simp
              with_reducible rfl
             rotate_left
             ·simp only [Act.put,zYTrKa,zYTrKb,zYTrKc]
              rfl
             refine done_ (done_of HT_.out (by kernel_rfl)) ?_
             go_wp2_with fail
             go_meet
             case rel => exact ⟨by rw [HTWB.out];first | rfl | (simp only [Bool.and_true,Bool.true_and,Bool.and_false,Bool.false_and];done),Lib.hid hB5⟩
           ·rcases (show tw = false ∨ (tw = true ∧ i1 = false) from by revert hi2;cases tw <;> cases i1 <;> simp) with rfl | ⟨rfl,rfl⟩
            all_goals as_aux_lemma =>
             clear hi2
             refine start_ (n := 49) (S := fun w' => w'.cell? ⟨gb,0,none⟩ = some (.int .i64 x.f0) ∧ w'.cell? ⟨gb,1,none⟩ = some (.int .i64 x.f1) ∧ w'.cell? ⟨gb,2,none⟩ = some (.int .i64 x.f2) ∧ w'.cell? ⟨gb,3,none⟩ = some (.int .i64 x.f3) ∧ w'.cell? ⟨gb,4,none⟩ = some (.string x.f4) ∧ w'.cell? ⟨gb,5,none⟩ = some (.string x.f5) ∧ w'.cell? ⟨gb,6,none⟩ = some (.int .i64 x.f6) ∧ Below wc.heap.size wc w') (ds := []) #[false,false,false,false,false,false,false,false,false,false,false,false,false,false,false,false,false,false,false,false,false,false,false,false,false,false,false,false,false,false,false,false,false,false,false,false,false,false,false,false,false,false,false,false,false,false,false,false,false] (by kernel_rfl) rfl rfl (KS.out _ hBd) (fun hHeld => ?_)
             refine with_tabW rbegin_tab14 rbegin_bits14 (fun HT_ HW_ => ?_)
             refine pure_ (i := 0) (N := (some 131)) (v := ?_) (a' := ?_) #[true,false,false,false,false,false,false,false,false,false,false,false,false,false,false,false,false,false,false,false,false,false,false,false,false,false,false,false,false,false,false,false,false,false,false,false,false,false,false,false,false,false,false,false,false,false,false,false,false] rfl rfl (any_of HT_.out (by kernel_rfl)) (fun _ _ _ h => h) (Or.inl ⟨by rfl,?_⟩) ?_ ?_
             rotate_left
             ·intro w'
              go_simp
              with_reducible rfl
             rotate_left
             ·simp only [Act.put,zYTrKa,zYTrKb,zYTrKc]
              rfl
             refine take_ (i := 1) (N := (some 132)) (v := ?_) (a' := ?_) #[true,true,false,false,false,false,false,false,false,false,false,false,false,false,false,false,false,false,false,false,false,false,false,false,false,false,false,false,false,false,false,false,false,false,false,false,false,false,false,false,false,false,false,false,false,false,false,false,false] rfl rfl (take_ofW HT_.out HW_.out (by kernel_rfl)) (fun _ _ _ h => h) (Or.inl ⟨by rfl,?_⟩) hHeld ?_ ?_
             rotate_left
             ·rintro w' ⟨s0,s1,s2,s3,s4,s5,s6,_⟩
              go_simp
              with_reducible rfl
             rotate_left
             ·simp only [Act.put,zYTrKa,zYTrKb,zYTrKc]
              rfl
             refine one_ (i := 2) (N := (some 133)) #[true,true,true,false,false,false,false,false,false,false,false,false,false,false,false,false,false,false,false,false,false,false,false,false,false,false,false,false,false,false,false,false,false,false,false,false,false,false,false,false,false,false,false,false,false,false,false,false,false] rfl rfl (one_of HT_.out (by kernel_rfl)) (by decide) (fun K hK => ?_)
             refine goes_ Tryd.func40 (by kernel_rfl) rfl #[.int .i64 x.f0] (by rfl) rfl rfl (by (try simp only [List.map_toArray,List.map_cons,List.map_nil]);first | done | rfl) ?_
             (with_reducible refine (KT.out _).mono ?_)
             rintro e5 w5 ⟨rfl,hb5⟩
             refine ⟨_,rfl,?_⟩
             have hB5 := bl_then hBd hb5
             refine hK.out _ _ (KS.out _ hB5) (fun hHeld => ?_)
             clear hK K
             refine norm_ (a' := ?_) ?_ ?_
             rotate_left
             ·show Act.put _ (some 133) _ = _
              simp only [Act.put,zYTrKa,zYTrKb,zYTrKc]
              rfl
             refine pure_ (i := 3) (N := (some 134)) (v := ?_) (a' := ?_) #[true,true,true,true,false,false,false,false,false,false,false,false,false,false,false,false,false,false,false,false,false,false,false,false,false,false,false,false,false,false,false,false,false,false,false,false,false,false,false,false,false,false,false,false,false,false,false,false,false] rfl rfl (any_of HT_.out (by kernel_rfl)) (fun _ _ _ h => h) (Or.inl ⟨by rfl,?_⟩) ?_ ?_
             rotate_left
             ·intro w'
              go_simp
              with_reducible rfl
             rotate_left
             ·simp only [Act.put,zYTrKa,zYTrKb,zYTrKc]
              rfl
             first
             |(refine pure_ (i := 4) (N := (some 135)) (v := ?_) (a' := ?_) #[true,true,true,true,true,false,false,false,false,false,false,false,false,false,false,false,false,false,false,false,false,false,false,false,false,false,false,false,false,false,false,false,false,false,false,false,false,false,false,false,false,false,false,false,false,false,false,false,false] rfl rfl (any_of HT_.out (by kernel_rfl)) (fun _ _ _ h => h) (Or.inl ⟨by rfl,?_⟩) ?_ ?_
               rotate_left
               ·intro w'
                go_simp
                with_reducible rfl
               rotate_left
               ·simp only [Act.put,zYTrKa,zYTrKb,zYTrKc]
                rfl)
             |(refine pure_ (i := 4) (N := (some 135)) (v := undef) (a' := ?_) #[true,true,true,true,true,false,false,false,false,false,false,false,false,false,false,false,false,false,false,false,false,false,false,false,false,false,false,false,false,false,false,false,false,false,false,false,false,false,false,false,false,false,false,false,false,false,false,false,false] rfl rfl (any_of HT_.out (by kernel_rfl)) (fun _ _ _ h => h) (Or.inr ⟨by rfl,rfl⟩) ?_ ?_
               rotate_left
               ·simp only [Act.put,zYTrKa,zYTrKb,zYTrKc]
                rfl)
             first
             |(refine pure_ (i := 5) (N := (some 136)) (v := ?_) (a' := ?_) #[true,true,true,true,true,true,false,false,false,false,false,false,false,false,false,false,false,false,false,false,false,false,false,false,false,false,false,false,false,false,false,false,false,false,false,false,false,false,false,false,false,false,false,false,false,false,false,false,false] rfl rfl (any_of HT_.out (by kernel_rfl)) (fun _ _ _ h => h) (Or.inl ⟨by rfl,?_⟩) ?_ ?_
               rotate_left
               ·intro w'
                go_simp
                with_reducible rfl
               rotate_left
               ·simp only [Act.put,zYTrKa,zYTrKb,zYTrKc]
                rfl)
             |(refine pure_ (i := 5) (N := (some 136)) (v := undef) (a' := ?_) #[true,true,true,true,true,true,false,false,false,false,false,false,false,false,false,false,false,false,false,false,false,false,false,false,false,false,false,false,false,false,false,false,false,false,false,false,false,false,false,false,false,false,false,false,false,false,false,false,false] rfl rfl (any_of HT_.out (by kernel_rfl)) (fun _ _ _ h => h) (Or.inr ⟨by rfl,rfl⟩) ?_ ?_
               rotate_left
               ·simp only [Act.put,zYTrKa,zYTrKb,zYTrKc]
                rfl)
             refine pure_ (i := 6) (N := (some 137)) (v := ?_) (a' := ?_) #[true,true,true,true,true,true,true,false,false,false,false,false,false,false,false,false,false,false,false,false,false,false,false,false,false,false,false,false,false,false,false,false,false,false,false,false,false,false,false,false,false,false,false,false,false,false,false,false,false] rfl rfl (any_of HT_.out (by kernel_rfl)) (fun _ _ _ h => h) (Or.inl ⟨by rfl,?_⟩) ?_ ?_
             rotate_left
             ·intro w'
              go_simp
              with_reducible rfl
             rotate_left
             ·simp only [Act.put,zYTrKa,zYTrKb,zYTrKc]
              rfl
             refine pure_ (i := 7) (N := (some 138)) (v := ?_) (a' := ?_) #[true,true,true,true,true,true,true,true,false,false,false,false,false,false,false,false,false,false,false,false,false,false,false,false,false,false,false,false,false,false,false,false,false,false,false,false,false,false,false,false,false,false,false,false,false,false,false,false,false] rfl rfl (any_of HT_.out (by kernel_rfl)) (fun _ _ _ h => h) (Or.inl ⟨by rfl,?_⟩) ?_ ?_
             rotate_left
             ·intro w'
              go_simp
              with_reducible rfl
             rotate_left
             ·simp only [Act.put,zYTrKa,zYTrKb,zYTrKc]
              rfl
             first
             |(refine pure_ (i := 8) (N := (some 139)) (v := ?_) (a' := ?_) #[true,true,true,true,true,true,true,true,true,false,false,false,false,false,false,false,false,false,false,false,false,false,false,false,false,false,false,false,false,false,false,false,false,false,false,false,false,false,false,false,false,false,false,false,false,false,false,false,false] rfl rfl (any_of HT_.out (by kernel_rfl)) (fun _ _ _ h => h) (Or.inl ⟨by rfl,?_⟩) ?_ ?_
               rotate_left
               ·intro w'
                go_simp
                with_reducible rfl
               rotate_left
               ·simp only [Act.put,zYTrKa,zYTrKb,zYTrKc]
                rfl)
             |(refine pure_ (i := 8) (N := (some 139)) (v := undef) (a' := ?_) #[true,true,true,true,true,true,true,true,true,false,false,false,false,false,false,false,false,false,false,false,false,false,false,false,false,false,false,false,false,false,false,false,false,false,false,false,false,false,false,false,false,false,false,false,false,false,false,false,false] rfl rfl (any_of HT_.out (by kernel_rfl)) (fun _ _ _ h => h) (Or.inr ⟨by rfl,rfl⟩) ?_ ?_
               rotate_left
               ·simp only [Act.put,zYTrKa,zYTrKb,zYTrKc]
                rfl)
             first
             |(refine pure_ (i := 10) (N := (some 141)) (v := ?_) (a' := ?_) #[true,true,true,true,true,true,true,true,true,false,true,false,false,false,false,false,false,false,false,false,false,false,false,false,false,false,false,false,false,false,false,false,false,false,false,false,false,false,false,false,false,false,false,false,false,false,false,false,false] rfl rfl (any_of HT_.out (by kernel_rfl)) (fun _ _ _ h => h) (Or.inl ⟨by rfl,?_⟩) ?_ ?_
               rotate_left
               ·intro w'
                go_simp
                with_reducible rfl
               rotate_left
               ·simp only [Act.put,zYTrKa,zYTrKb,zYTrKc]
                rfl)
             |(refine pure_ (i := 10) (N := (some 141)) (v := undef) (a' := ?_) #[true,true,true,true,true,true,true,true,true,false,true,false,false,false,false,false,false,false,false,false,false,false,false,false,false,false,false,false,false,false,false,false,false,false,false,false,false,false,false,false,false,false,false,false,false,false,false,false,false] rfl rfl (any_of HT_.out (by kernel_rfl)) (fun _ _ _ h => h) (Or.inr ⟨by rfl,rfl⟩) ?_ ?_
               rotate_left
               ·simp only [Act.put,zYTrKa,zYTrKb,zYTrKc]
                rfl)
             first
             |(refine pure_ (i := 11) (N := (some 142)) (v := ?_) (a' := ?_) #[true,true,true,true,true,true,true,true,true,false,true,true,false,false,false,false,false,false,false,false,false,false,false,false,false,false,false,false,false,false,false,false,false,false,false,false,false,false,false,false,false,false,false,false,false,false,false,false,false] rfl rfl (any_of HT_.out (by kernel_rfl)) (fun _ _ _ h => h) (Or.inl ⟨by rfl,?_⟩) ?_ ?_
               rotate_left
               ·intro w'
                go_simp
                with_reducible rfl
               rotate_left
               ·simp only [Act.put,zYTrKa,zYTrKb,zYTrKc]
                rfl)
             |(refine pure_ (i := 11) (N := (some 142)) (v := undef) (a' := ?_) #[true,true,true,true,true,true,true,true,true,false,true,true,false,false,false,false,false,false,false,false,false,false,false,false,false,false,false,false,false,false,false,false,false,false,false,false,false,false,false,false,false,false,false,false,false,false,false,false,false] rfl rfl (any_of HT_.out (by kernel_rfl)) (fun _ _ _ h => h) (Or.inr ⟨by rfl,rfl⟩) ?_ ?_
               rotate_left
               ·simp only [Act.put,zYTrKa,zYTrKb,zYTrKc]
                rfl)
             first
             |(refine take_ (i := 9) (N := (some 140)) (v := ?_) (a' := ?_) #[true,true,true,true,true,true,true,true,true,true,true,true,false,false,false,false,false,false,false,false,false,false,false,false,false,false,false,false,false,false,false,false,false,false,false,false,false,false,false,false,false,false,false,false,false,false,false,false,false] rfl rfl (take_ofW HT_.out HW_.out (by kernel_rfl)) (fun _ _ _ h => h) (Or.inl ⟨by rfl,?_⟩) hHeld ?_ ?_
               rotate_left
               ·rintro w' ⟨s0,s1,s2,s3,s4,s5,s6,_⟩
                go_simp
                with_reducible rfl
               rotate_left
               ·simp only [Act.put,zYTrKa,zYTrKb,zYTrKc]
                rfl)
             |(refine pure_ (i := 9) (N := (some 140)) (v := undef) (a' := ?_) #[true,true,true,true,true,true,true,true,true,true,true,true,false,false,false,false,false,false,false,false,false,false,false,false,false,false,false,false,false,false,false,false,false,false,false,false,false,false,false,false,false,false,false,false,false,false,false,false,false] rfl rfl (any_of HT_.out (by kernel_rfl)) (fun _ _ _ h => h) (Or.inr ⟨by rfl,rfl⟩) ?_ ?_
               rotate_left
               ·simp only [Act.put,zYTrKa,zYTrKb,zYTrKc]
                rfl)
             first
             |(refine pure_ (i := 12) (N := (some 143)) (v := ?_) (a' := ?_) #[true,true,true,true,true,true,true,true,true,true,true,true,true,false,false,false,false,false,false,false,false,false,false,false,false,false,false,false,false,false,false,false,false,false,false,false,false,false,false,false,false,false,false,false,false,false,false,false,false] rfl rfl (any_of HT_.out (by kernel_rfl)) (fun _ _ _ h => h) (Or.inl ⟨by rfl,?_⟩) ?_ ?_
               rotate_left
               ·intro w'
                go_simp
                with_reducible rfl
               rotate_left
               ·simp only [Act.put,zYTrKa,zYTrKb,zYTrKc]
                rfl)
             |(refine pure_ (i := 12) (N := (some 143)) (v := undef) (a' := ?_) #[true,true,true,true,true,true,true,true,true,true,true,true,true,false,false,false,false,false,false,false,false,false,false,false,false,false,false,false,false,false,false,false,false,false,false,false,false,false,false,false,false,false,false,false,false,false,false,false,false] rfl rfl (any_of HT_.out (by kernel_rfl)) (fun _ _ _ h => h) (Or.inr ⟨by rfl,rfl⟩) ?_ ?_
               rotate_left
               ·simp only [Act.put,zYTrKa,zYTrKb,zYTrKc]
                rfl)
             refine pure_ (i := 13) (N := (some 144)) (v := ?_) (a' := ?_) #[true,true,true,true,true,true,true,true,true,true,true,true,true,true,false,false,false,false,false,false,false,false,false,false,false,false,false,false,false,false,false,false,false,false,false,false,false,false,false,false,false,false,false,false,false,false,false,false,false] rfl rfl (any_of HT_.out (by kernel_rfl)) (fun _ _ _ h => h) (Or.inl ⟨by rfl,?_⟩) ?_ ?_
             rotate_left
             ·intro w'
              go_simp
              with_reducible rfl
             rotate_left
             ·simp only [Act.put,zYTrKa,zYTrKb,zYTrKc]
              rfl
             refine pure_ (i := 14) (N := (some 145)) (v := ?_) (a' := ?_) #[true,true,true,true,true,true,true,true,true,true,true,true,true,true,true,false,false,false,false,false,false,false,false,false,false,false,false,false,false,false,false,false,false,false,false,false,false,false,false,false,false,false,false,false,false,false,false,false,false] rfl rfl (any_of HT_.out (by kernel_rfl)) (fun _ _ _ h => h) (Or.inl ⟨by rfl,?_⟩) ?_ ?_
             rotate_left
             ·intro w'
              go_simp
              with_reducible rfl
             rotate_left
             ·simp only [Act.put,zYTrKa,zYTrKb,zYTrKc]
              rfl
             first
             |(refine pure_ (i := 15) (N := (some 146)) (v := ?_) (a' := ?_) #[true,true,true,true,true,true,true,true,true,true,true,true,true,true,true,true,false,false,false,false,false,false,false,false,false,false,false,false,false,false,false,false,false,false,false,false,false,false,false,false,false,false,false,false,false,false,false,false,false] rfl rfl (any_of HT_.out (by kernel_rfl)) (fun _ _ _ h => h) (Or.inl ⟨by rfl,?_⟩) ?_ ?_
               rotate_left
               ·intro w'
                go_simp
                with_reducible rfl
               rotate_left
               ·simp only [Act.put,zYTrKa,zYTrKb,zYTrKc]
                rfl)
             |(refine pure_ (i := 15) (N := (some 146)) (v := undef) (a' := ?_) #[true,true,true,true,true,true,true,true,true,true,true,true,true,true,true,true,false,false,false,false,false,false,false,false,false,false,false,false,false,false,false,false,false,false,false,false,false,false,false,false,false,false,false,false,false,false,false,false,false] rfl rfl (any_of HT_.out (by kernel_rfl)) (fun _ _ _ h => h) (Or.inr ⟨by rfl,rfl⟩) ?_ ?_
               rotate_left
               ·simp only [Act.put,zYTrKa,zYTrKb,zYTrKc]
                rfl)
             first
             |(refine pure_ (i := 16) (N := (some 147)) (v := ?_) (a' := ?_) #[true,true,true,true,true,true,true,true,true,true,true,true,true,true,true,true,true,false,false,false,false,false,false,false,false,false,false,false,false,false,false,false,false,false,false,false,false,false,false,false,false,false,false,false,false,false,false,false,false] rfl rfl (any_of HT_.out (by kernel_rfl)) (fun _ _ _ h => h) (Or.inl ⟨by rfl,?_⟩) ?_ ?_
               rotate_left
               ·intro w'
                go_simp
                with_reducible rfl
               rotate_left
               ·simp only [Act.put,zYTrKa,zYTrKb,zYTrKc]
                rfl)
             |(refine pure_ (i := 16) (N := (some 147)) (v := undef) (a' := ?_) #[true,true,true,true,true,true,true,true,true,true,true,true,true,true,true,true,true,false,false,false,false,false,false,false,false,false,false,false,false,false,false,false,false,false,false,false,false,false,false,false,false,false,false,false,false,false,false,false,false] rfl rfl (any_of HT_.out (by kernel_rfl)) (fun _ _ _ h => h) (Or.inr ⟨by rfl,rfl⟩) ?_ ?_
               rotate_left
               ·simp only [Act.put,zYTrKa,zYTrKb,zYTrKc]
                rfl)
             first
             |(refine pure_ (i := 17) (N := (some 148)) (v := ?_) (a' := ?_) #[true,true,true,true,true,true,true,true,true,true,true,true,true,true,true,true,true,true,false,false,false,false,false,false,false,false,false,false,false,false,false,false,false,false,false,false,false,false,false,false,false,false,false,false,false,false,false,false,false] rfl rfl (any_of HT_.out (by kernel_rfl)) (fun _ _ _ h => h) (Or.inl ⟨by rfl,?_⟩) ?_ ?_
               rotate_left
               ·intro w'
                go_simp
                with_reducible rfl
               rotate_left
               ·simp only [Act.put,zYTrKa,zYTrKb,zYTrKc]
                rfl)
             |(refine pure_ (i := 17) (N := (some 148)) (v := undef) (a' := ?_) #[true,true,true,true,true,true,true,true,true,true,true,true,true,true,true,true,true,true,false,false,false,false,false,false,false,false,false,false,false,false,false,false,false,false,false,false,false,false,false,false,false,false,false,false,false,false,false,false,false] rfl rfl (any_of HT_.out (by kernel_rfl)) (fun _ _ _ h => h) (Or.inr ⟨by rfl,rfl⟩) ?_ ?_
               rotate_left
               ·simp only [Act.put,zYTrKa,zYTrKb,zYTrKc]
                rfl)
             first
             |(refine pure_ (i := 18) (N := (some 149)) (v := ?_) (a' := ?_) #[true,true,true,true,true,true,true,true,true,true,true,true,true,true,true,true,true,true,true,false,false,false,false,false,false,false,false,false,false,false,false,false,false,false,false,false,false,false,false,false,false,false,false,false,false,false,false,false,false] rfl rfl (any_of HT_.out (by kernel_rfl)) (fun _ _ _ h => h) (Or.inl ⟨by rfl,?_⟩) ?_ ?_
               rotate_left
               ·intro w'
                go_simp
                with_reducible rfl
               rotate_left
               ·simp only [Act.put,zYTrKa,zYTrKb,zYTrKc]
                rfl)
             |(refine pure_ (i := 18) (N := (some 149)) (v := undef) (a' := ?_) #[true,true,true,true,true,true,true,true,true,true,true,true,true,true,true,true,true,true,true,false,false,false,false,false,false,false,false,false,false,false,false,false,false,false,false,false,false,false,false,false,false,false,false,false,false,false,false,false,false] rfl rfl (any_of HT_.out (by kernel_rfl)) (fun _ _ _ h => h) (Or.inr ⟨by rfl,rfl⟩) ?_ ?_
               rotate_left
               ·simp only [Act.put,zYTrKa,zYTrKb,zYTrKc]
                rfl)
             first
             |(refine take_ (i := 19) (N := (some 150)) (v := ?_) (a' := ?_) #[true,true,true,true,true,true,true,true,true,true,true,true,true,true,true,true,true,true,true,true,false,false,false,false,false,false,false,false,false,false,false,false,false,false,false,false,false,false,false,false,false,false,false,false,false,false,false,false,false] rfl rfl (take_ofW HT_.out HW_.out (by kernel_rfl)) (fun _ _ _ h => h) (Or.inl ⟨by rfl,?_⟩) hHeld ?_ ?_
               rotate_left
               ·rintro w' ⟨s0,s1,s2,s3,s4,s5,s6,_⟩
                go_simp
                with_reducible rfl
               rotate_left
               ·simp only [Act.put,zYTrKa,zYTrKb,zYTrKc]
                rfl)
             |(refine pure_ (i := 19) (N := (some 150)) (v := undef) (a' := ?_) #[true,true,true,true,true,true,true,true,true,true,true,true,true,true,true,true,true,true,true,true,false,false,false,false,false,false,false,false,false,false,false,false,false,false,false,false,false,false,false,false,false,false,false,false,false,false,false,false,false] rfl rfl (any_of HT_.out (by kernel_rfl)) (fun _ _ _ h => h) (Or.inr ⟨by rfl,rfl⟩) ?_ ?_
               rotate_left
               ·simp only [Act.put,zYTrKa,zYTrKb,zYTrKc]
                rfl)
             first
             |(refine pure_ (i := 20) (N := (some 151)) (v := ?_) (a' := ?_) #[true,true,true,true,true,true,true,true,true,true,true,true,true,true,true,true,true,true,true,true,true,false,false,false,false,false,false,false,false,false,false,false,false,false,false,false,false,false,false,false,false,false,false,false,false,false,false,false,false] rfl rfl (any_of HT_.out (by kernel_rfl)) (fun _ _ _ h => h) (Or.inl ⟨by rfl,?_⟩) ?_ ?_
               rotate_left
               ·intro w'
                go_simp
                with_reducible rfl
               rotate_left
               ·simp only [Act.put,zYTrKa,zYTrKb,zYTrKc]
                rfl)
             |(refine pure_ (i := 20) (N := (some 151)) (v := undef) (a' := ?_) #[true,true,true,true,true,true,true,true,true,true,true,true,true,true,true,true,true,true,true,true,true,false,false,false,false,false,false,false,false,false,false,false,false,false,false,false,false,false,false,false,false,false,false,false,false,false,false,false,false] rfl rfl (any_of HT_.out (by kernel_rfl)) (fun _ _ _ h => h) (Or.inr ⟨by rfl,rfl⟩) ?_ ?_
               rotate_left
               ·simp only [Act.put,zYTrKa,zYTrKb,zYTrKc]
                rfl)
             refine pure_ (i := 21) (N := (some 152)) (v := ?_) (a' := ?_) #[true,true,true,true,true,true,true,true,true,true,true,true,true,true,true,true,true,true,true,true,true,true,false,false,false,false,false,false,false,false,false,false,false,false,false,false,false,false,false,false,false,false,false,false,false,false,false,false,false] rfl rfl (any_of HT_.out (by kernel_rfl)) (fun _ _ _ h => h) (Or.inl ⟨by rfl,?_⟩) ?_ ?_
             rotate_left
             ·intro w'
              go_simp
              with_reducible rfl
             rotate_left
             ·simp only [Act.put,zYTrKa,zYTrKb,zYTrKc]
              rfl
             refine pure_ (i := 22) (N := (some 153)) (v := ?_) (a' := ?_) #[true,true,true,true,true,true,true,true,true,true,true,true,true,true,true,true,true,true,true,true,true,true,true,false,false,false,false,false,false,false,false,false,false,false,false,false,false,false,false,false,false,false,false,false,false,false,false,false,false] rfl rfl (any_of HT_.out (by kernel_rfl)) (fun _ _ _ h => h) (Or.inl ⟨by rfl,?_⟩) ?_ ?_
             rotate_left
             ·intro w'
              go_simp
              with_reducible rfl
             rotate_left
             ·simp only [Act.put,zYTrKa,zYTrKb,zYTrKc]
              rfl
             first
             |(refine pure_ (i := 23) (N := (some 154)) (v := ?_) (a' := ?_) #[true,true,true,true,true,true,true,true,true,true,true,true,true,true,true,true,true,true,true,true,true,true,true,true,false,false,false,false,false,false,false,false,false,false,false,false,false,false,false,false,false,false,false,false,false,false,false,false,false] rfl rfl (any_of HT_.out (by kernel_rfl)) (fun _ _ _ h => h) (Or.inl ⟨by rfl,?_⟩) ?_ ?_
               rotate_left
               ·intro w'
                go_simp
                with_reducible rfl
               rotate_left
               ·simp only [Act.put,zYTrKa,zYTrKb,zYTrKc]
                rfl)
             |(refine pure_ (i := 23) (N := (some 154)) (v := undef) (a' := ?_) #[true,true,true,true,true,true,true,true,true,true,true,true,true,true,true,true,true,true,true,true,true,true,true,true,false,false,false,false,false,false,false,false,false,false,false,false,false,false,false,false,false,false,false,false,false,false,false,false,false] rfl rfl (any_of HT_.out (by kernel_rfl)) (fun _ _ _ h => h) (Or.inr ⟨by rfl,rfl⟩) ?_ ?_
               rotate_left
               ·simp only [Act.put,zYTrKa,zYTrKb,zYTrKc]
                rfl)
             first
             |(refine pure_ (i := 25) (N := (some 156)) (v := ?_) (a' := ?_) #[true,true,true,true,true,true,true,true,true,true,true,true,true,true,true,true,true,true,true,true,true,true,true,true,false,true,false,false,false,false,false,false,false,false,false,false,false,false,false,false,false,false,false,false,false,false,false,false,false] rfl rfl (any_of HT_.out (by kernel_rfl)) (fun _ _ _ h => h) (Or.inl ⟨by rfl,?_⟩) ?_ ?_
               rotate_left
               ·intro w'
                go_simp
                with_reducible rfl
               rotate_left
               ·simp only [Act.put,zYTrKa,zYTrKb,zYTrKc]
                rfl)
             |(refine pure_ (i := 25) (N := (some 156)) (v := undef) (a' := ?_) #[true,true,true,true,true,true,true,true,true,true,true,true,true,true,true,true,true,true,true,true,true,true,true,true,false,true,false,false,false,false,false,false,false,false,false,false,false,false,false,false,false,false,false,false,false,false,false,false,false] rfl rfl (any_of HT_.out (by kernel_rfl)) (fun _ _ _ h => h) (Or.inr ⟨by rfl,rfl⟩) ?_ ?_
               rotate_left
               ·simp only [Act.put,zYTrKa,zYTrKb,zYTrKc]
                rfl)
             first
             |(refine pure_ (i := 26) (N := (some 157)) (v := ?_) (a' := ?_) #[true,true,true,true,true,true,true,true,true,true,true,true,true,true,true,true,true,true,true,true,true,true,true,true,false,true,true,false,false,false,false,false,false,false,false,false,false,false,false,false,false,false,false,false,false,false,false,false,false] rfl rfl (any_of HT_.out (by kernel_rfl)) (fun _ _ _ h => h) (Or.inl ⟨by rfl,?_⟩) ?_ ?_
               rotate_left
               ·intro w'
                go_simp
                with_reducible rfl
               rotate_left
               ·simp only [Act.put,zYTrKa,zYTrKb,zYTrKc]
                rfl)
             |(refine pure_ (i := 26) (N := (some 157)) (v := undef) (a' := ?_) #[true,true,true,true,true,true,true,true,true,true,true,true,true,true,true,true,true,true,true,true,true,true,true,true,false,true,true,false,false,false,false,false,false,false,false,false,false,false,false,false,false,false,false,false,false,false,false,false,false] rfl rfl (any_of HT_.out (by kernel_rfl)) (fun _ _ _ h => h) (Or.inr ⟨by rfl,rfl⟩) ?_ ?_
               rotate_left
               ·simp only [Act.put,zYTrKa,zYTrKb,zYTrKc]
                rfl)
             first
             |(refine pure_ (i := 27) (N := (some 158)) (v := ?_) (a' := ?_) #[true,true,true,true,true,true,true,true,true,true,true,true,true,true,true,true,true,true,true,true,true,true,true,true,false,true,true,true,false,false,false,false,false,false,false,false,false,false,false,false,false,false,false,false,false,false,false,false,false] rfl rfl (any_of HT_.out (by kernel_rfl)) (fun _ _ _ h => h) (Or.inl ⟨by rfl,?_⟩) ?_ ?_
               rotate_left
               ·intro w'
                go_simp
                with_reducible rfl
               rotate_left
               ·simp only [Act.put,zYTrKa,zYTrKb,zYTrKc]
                rfl)
             |(refine pure_ (i := 27) (N := (some 158)) (v := undef) (a' := ?_) #[true,true,true,true,true,true,true,true,true,true,true,true,true,true,true,true,true,true,true,true,true,true,true,true,false,true,true,true,false,false,false,false,false,false,false,false,false,false,false,false,false,false,false,false,false,false,false,false,false] rfl rfl (any_of HT_.out (by kernel_rfl)) (fun _ _ _ h => h) (Or.inr ⟨by rfl,rfl⟩) ?_ ?_
               rotate_left
               ·simp only [Act.put,zYTrKa,zYTrKb,zYTrKc]
                rfl)
             first
             |(refine pure_ (i := 28) (N := (some 159)) (v := ?_) (a' := ?_) #[true,true,true,true,true,true,true,true,true,true,true,true,true,true,true,true,true,true,true,true,true,true,true,true,false,true,true,true,true,false,false,false,false,false,false,false,false,false,false,false,false,false,false,false,false,false,false,false,false] rfl rfl (any_of HT_.out (by kernel_rfl)) (fun _ _ _ h => h) (Or.inl ⟨by rfl,?_⟩) ?_ ?_
               rotate_left
               ·intro w'
                go_simp
                with_reducible rfl
               rotate_left
               ·simp only [Act.put,zYTrKa,zYTrKb,zYTrKc]
                rfl)
             |(refine pure_ (i := 28) (N := (some 159)) (v := undef) (a' := ?_) #[true,true,true,true,true,true,true,true,true,true,true,true,true,true,true,true,true,true,true,true,true,true,true,true,false,true,true,true,true,false,false,false,false,false,false,false,false,false,false,false,false,false,false,false,false,false,false,false,false] rfl rfl (any_of HT_.out (by kernel_rfl)) (fun _ _ _ h => h) (Or.inr ⟨by rfl,rfl⟩) ?_ ?_
               rotate_left
               ·simp only [Act.put,zYTrKa,zYTrKb,zYTrKc]
                rfl)
             first
             |(refine take_ (i := 24) (N := (some 155)) (v := ?_) (a' := ?_) #[true,true,true,true,true,true,true,true,true,true,true,true,true,true,true,true,true,true,true,true,true,true,true,true,true,true,true,true,true,false,false,false,false,false,false,false,false,false,false,false,false,false,false,false,false,false,false,false,false] rfl rfl (take_ofW HT_.out HW_.out (by kernel_rfl)) (fun _ _ _ h => h) (Or.inl ⟨by rfl,?_⟩) hHeld ?_ ?_
               rotate_left
               ·rintro w' ⟨s0,s1,s2,s3,s4,s5,s6,_⟩
                go_simp
                with_reducible rfl
               rotate_left
               ·simp only [Act.put,zYTrKa,zYTrKb,zYTrKc]
                rfl)
             |(refine pure_ (i := 24) (N := (some 155)) (v := undef) (a' := ?_) #[true,true,true,true,true,true,true,true,true,true,true,true,true,true,true,true,true,true,true,true,true,true,true,true,true,true,true,true,true,false,false,false,false,false,false,false,false,false,false,false,false,false,false,false,false,false,false,false,false] rfl rfl (any_of HT_.out (by kernel_rfl)) (fun _ _ _ h => h) (Or.inr ⟨by rfl,rfl⟩) ?_ ?_
               rotate_left
               ·simp only [Act.put,zYTrKa,zYTrKb,zYTrKc]
                rfl)
             first
             |(refine take_ (i := 29) (N := (some 160)) (v := ?_) (a' := ?_) #[true,true,true,true,true,true,true,true,true,true,true,true,true,true,true,true,true,true,true,true,true,true,true,true,true,true,true,true,true,true,false,false,false,false,false,false,false,false,false,false,false,false,false,false,false,false,false,false,false] rfl rfl (take_ofW HT_.out HW_.out (by kernel_rfl)) (fun _ _ _ h => h) (Or.inl ⟨by rfl,?_⟩) hHeld ?_ ?_
               rotate_left
               ·rintro w' ⟨s0,s1,s2,s3,s4,s5,s6,_⟩
                go_simp
                with_reducible rfl
               rotate_left
               ·simp only [Act.put,zYTrKa,zYTrKb,zYTrKc]
                rfl)
             |(refine pure_ (i := 29) (N := (some 160)) (v := undef) (a' := ?_) #[true,true,true,true,true,true,true,true,true,true,true,true,true,true,true,true,true,true,true,true,true,true,true,true,true,true,true,true,true,true,false,false,false,false,false,false,false,false,false,false,false,false,false,false,false,false,false,false,false] rfl rfl (any_of HT_.out (by kernel_rfl)) (fun _ _ _ h => h) (Or.inr ⟨by rfl,rfl⟩) ?_ ?_
               rotate_left
               ·simp only [Act.put,zYTrKa,zYTrKb,zYTrKc]
                rfl)
             first
             |(refine pure_ (i := 30) (N := (some 161)) (v := ?_) (a' := ?_) #[true,true,true,true,true,true,true,true,true,true,true,true,true,true,true,true,true,true,true,true,true,true,true,true,true,true,true,true,true,true,true,false,false,false,false,false,false,false,false,false,false,false,false,false,false,false,false,false,false] rfl rfl (any_of HT_.out (by kernel_rfl)) (fun _ _ _ h => h) (Or.inl ⟨by rfl,?_⟩) ?_ ?_
               rotate_left
               ·intro w'
                go_simp
                with_reducible rfl
               rotate_left
               ·simp only [Act.put,zYTrKa,zYTrKb,zYTrKc]
                rfl)
             |(refine pure_ (i := 30) (N := (some 161)) (v := undef) (a' := ?_) #[true,true,true,true,true,true,true,true,true,true,true,true,true,true,true,true,true,true,true,true,true,true,true,true,true,true,true,true,true,true,true,false,false,false,false,false,false,false,false,false,false,false,false,false,false,false,false,false,false] rfl rfl (any_of HT_.out (by kernel_rfl)) (fun _ _ _ h => h) (Or.inr ⟨by rfl,rfl⟩) ?_ ?_
               rotate_left
               ·simp only [Act.put,zYTrKa,zYTrKb,zYTrKc]
                rfl)
             first
             |(refine pure_ (i := 31) (N := (some 162)) (v := ?_) (a' := ?_) #[true,true,true,true,true,true,true,true,true,true,true,true,true,true,true,true,true,true,true,true,true,true,true,true,true,true,true,true,true,true,true,true,false,false,false,false,false,false,false,false,false,false,false,false,false,false,false,false,false] rfl rfl (any_of HT_.out (by kernel_rfl)) (fun _ _ _ h => h) (Or.inl ⟨by rfl,?_⟩) ?_ ?_
               rotate_left
               ·intro w'
                go_simp
                with_reducible rfl
               rotate_left
               ·simp only [Act.put,zYTrKa,zYTrKb,zYTrKc]
                rfl)
             |(refine pure_ (i := 31) (N := (some 162)) (v := undef) (a' := ?_) #[true,true,true,true,true,true,true,true,true,true,true,true,true,true,true,true,true,true,true,true,true,true,true,true,true,true,true,true,true,true,true,true,false,false,false,false,false,false,false,false,false,false,false,false,false,false,false,false,false] rfl rfl (any_of HT_.out (by kernel_rfl)) (fun _ _ _ h => h) (Or.inr ⟨by rfl,rfl⟩) ?_ ?_
               rotate_left
               ·simp only [Act.put,zYTrKa,zYTrKb,zYTrKc]
                rfl)
             refine pure_ (i := 32) (N := (some 163)) (v := ?_) (a' := ?_) #[true,true,true,true,true,true,true,true,true,true,true,true,true,true,true,true,true,true,true,true,true,true,true,true,true,true,true,true,true,true,true,true,true,false,false,false,false,false,false,false,false,false,false,false,false,false,false,false,false] rfl rfl (any_of HT_.out (by kernel_rfl)) (fun _ _ _ h => h) (Or.inl ⟨by rfl,?_⟩) ?_ ?_
             rotate_left
             ·intro w'
              go_simp
              with_reducible rfl
             rotate_left
             ·simp only [Act.put,zYTrKa,zYTrKb,zYTrKc]
              rfl
             refine pure_ (i := 33) (N := (some 164)) (v := ?_) (a' := ?_) #[true,true,true,true,true,true,true,true,true,true,true,true,true,true,true,true,true,true,true,true,true,true,true,true,true,true,true,true,true,true,true,true,true,true,false,false,false,false,false,false,false,false,false,false,false,false,false,false,false] rfl rfl (any_of HT_.out (by kernel_rfl)) (fun _ _ _ h => h) (Or.inl ⟨by rfl,?_⟩) ?_ ?_
             rotate_left
             ·intro w'
              go_simp
              with_reducible rfl
             rotate_left
             ·simp only [Act.put,zYTrKa,zYTrKb,zYTrKc]
              rfl
             first
             |(refine pure_ (i := 34) (N := (some 165)) (v := ?_) (a' := ?_) #[true,true,true,true,true,true,true,true,true,true,true,true,true,true,true,true,true,true,true,true,true,true,true,true,true,true,true,true,true,true,true,true,true,true,true,false,false,false,false,false,false,false,false,false,false,false,false,false,false] rfl rfl (any_of HT_.out (by kernel_rfl)) (fun _ _ _ h => h) (Or.inl ⟨by rfl,?_⟩) ?_ ?_
               rotate_left
               ·intro w'
                go_simp
                with_reducible rfl
               rotate_left
               ·simp only [Act.put,zYTrKa,zYTrKb,zYTrKc]
                rfl)
             |(refine pure_ (i := 34) (N := (some 165)) (v := undef) (a' := ?_) #[true,true,true,true,true,true,true,true,true,true,true,true,true,true,true,true,true,true,true,true,true,true,true,true,true,true,true,true,true,true,true,true,true,true,true,false,false,false,false,false,false,false,false,false,false,false,false,false,false] rfl rfl (any_of HT_.out (by kernel_rfl)) (fun _ _ _ h => h) (Or.inr ⟨by rfl,rfl⟩) ?_ ?_
               rotate_left
               ·simp only [Act.put,zYTrKa,zYTrKb,zYTrKc]
                rfl)
             first
             |(refine take_ (i := 35) (N := (some 166)) (v := ?_) (a' := ?_) #[true,true,true,true,true,true,true,true,true,true,true,true,true,true,true,true,true,true,true,true,true,true,true,true,true,true,true,true,true,true,true,true,true,true,true,true,false,false,false,false,false,false,false,false,false,false,false,false,false] rfl rfl (take_ofW HT_.out HW_.out (by kernel_rfl)) (fun _ _ _ h => h) (Or.inl ⟨by rfl,?_⟩) hHeld ?_ ?_
               rotate_left
               ·rintro w' ⟨s0,s1,s2,s3,s4,s5,s6,_⟩
                go_simp
                with_reducible rfl
               rotate_left
               ·simp only [Act.put,zYTrKa,zYTrKb,zYTrKc]
                rfl)
             |(refine pure_ (i := 35) (N := (some 166)) (v := undef) (a' := ?_) #[true,true,true,true,true,true,true,true,true,true,true,true,true,true,true,true,true,true,true,true,true,true,true,true,true,true,true,true,true,true,true,true,true,true,true,true,false,false,false,false,false,false,false,false,false,false,false,false,false] rfl rfl (any_of HT_.out (by kernel_rfl)) (fun _ _ _ h => h) (Or.inr ⟨by rfl,rfl⟩) ?_ ?_
               rotate_left
               ·simp only [Act.put,zYTrKa,zYTrKb,zYTrKc]
                rfl)
             first
             |(refine pure_ (i := 36) (N := (some 167)) (v := ?_) (a' := ?_) #[true,true,true,true,true,true,true,true,true,true,true,true,true,true,true,true,true,true,true,true,true,true,true,true,true,true,true,true,true,true,true,true,true,true,true,true,true,false,false,false,false,false,false,false,false,false,false,false,false] rfl rfl (any_of HT_.out (by kernel_rfl)) (fun _ _ _ h => h) (Or.inl ⟨by rfl,?_⟩) ?_ ?_
               rotate_left
               ·intro w'
                go_simp
                with_reducible rfl
               rotate_left
               ·simp only [Act.put,zYTrKa,zYTrKb,zYTrKc]
                rfl)
             |(refine pure_ (i := 36) (N := (some 167)) (v := undef) (a' := ?_) #[true,true,true,true,true,true,true,true,true,true,true,true,true,true,true,true,true,true,true,true,true,true,true,true,true,true,true,true,true,true,true,true,true,true,true,true,true,false,false,false,false,false,false,false,false,false,false,false,false] rfl rfl (any_of HT_.out (by kernel_rfl)) (fun _ _ _ h => h) (Or.inr ⟨by rfl,rfl⟩) ?_ ?_
               rotate_left
               ·simp only [Act.put,zYTrKa,zYTrKb,zYTrKc]
                rfl)
             refine pure_ (i := 37) (N := (some 168)) (v := ?_) (a' := ?_) #[true,true,true,true,true,true,true,true,true,true,true,true,true,true,true,true,true,true,true,true,true,true,true,true,true,true,true,true,true,true,true,true,true,true,true,true,true,true,false,false,false,false,false,false,false,false,false,false,false] rfl rfl (any_of HT_.out (by kernel_rfl)) (fun _ _ _ h => h) (Or.inl ⟨by rfl,?_⟩) ?_ ?_
             rotate_left
             ·intro w'
              go_simp
              with_reducible rfl
             rotate_left
             ·simp only [Act.put,zYTrKa,zYTrKb,zYTrKc]
              rfl
             refine pure_ (i := 38) (N := (some 169)) (v := ?_) (a' := ?_) #[true,true,true,true,true,true,true,true,true,true,true,true,true,true,true,true,true,true,true,true,true,true,true,true,true,true,true,true,true,true,true,true,true,true,true,true,true,true,true,false,false,false,false,false,false,false,false,false,false] rfl rfl (any_of HT_.out (by kernel_rfl)) (fun _ _ _ h => h) (Or.inl ⟨by rfl,?_⟩) ?_ ?_
             rotate_left
             ·intro w'
              go_simp
              with_reducible rfl
             rotate_left
             ·simp only [Act.put,zYTrKa,zYTrKb,zYTrKc]
              rfl
             first
             |(refine pure_ (i := 39) (N := (some 170)) (v := ?_) (a' := ?_) #[true,true,true,true,true,true,true,true,true,true,true,true,true,true,true,true,true,true,true,true,true,true,true,true,true,true,true,true,true,true,true,true,true,true,true,true,true,true,true,true,false,false,false,false,false,false,false,false,false] rfl rfl (any_of HT_.out (by kernel_rfl)) (fun _ _ _ h => h) (Or.inl ⟨by rfl,?_⟩) ?_ ?_
               rotate_left
               ·intro w'
                go_simp
                with_reducible rfl
               rotate_left
               ·simp only [Act.put,zYTrKa,zYTrKb,zYTrKc]
                rfl)
             |(refine pure_ (i := 39) (N := (some 170)) (v := undef) (a' := ?_) #[true,true,true,true,true,true,true,true,true,true,true,true,true,true,true,true,true,true,true,true,true,true,true,true,true,true,true,true,true,true,true,true,true,true,true,true,true,true,true,true,false,false,false,false,false,false,false,false,false] rfl rfl (any_of HT_.out (by kernel_rfl)) (fun _ _ _ h => h) (Or.inr ⟨by rfl,rfl⟩) ?_ ?_
               rotate_left
               ·simp only [Act.put,zYTrKa,zYTrKb,zYTrKc]
                rfl)
             first
             |(refine take_ (i := 40) (N := (some 171)) (v := ?_) (a' := ?_) #[true,true,true,true,true,true,true,true,true,true,true,true,true,true,true,true,true,true,true,true,true,true,true,true,true,true,true,true,true,true,true,true,true,true,true,true,true,true,true,true,true,false,false,false,false,false,false,false,false] rfl rfl (take_ofW HT_.out HW_.out (by kernel_rfl)) (fun _ _ _ h => h) (Or.inl ⟨by rfl,?_⟩) hHeld ?_ ?_
               rotate_left
               ·rintro w' ⟨s0,s1,s2,s3,s4,s5,s6,_⟩
                go_simp
                with_reducible rfl
               rotate_left
               ·simp only [Act.put,zYTrKa,zYTrKb,zYTrKc]
                rfl)
             |(refine pure_ (i := 40) (N := (some 171)) (v := undef) (a' := ?_) #[true,true,true,true,true,true,true,true,true,true,true,true,true,true,true,true,true,true,true,true,true,true,true,true,true,true,true,true,true,true,true,true,true,true,true,true,true,true,true,true,true,false,false,false,false,false,false,false,false] rfl rfl (any_of HT_.out (by kernel_rfl)) (fun _ _ _ h => h) (Or.inr ⟨by rfl,rfl⟩) ?_ ?_
               rotate_left
               ·simp only [Act.put,zYTrKa,zYTrKb,zYTrKc]
                rfl)
             first
             |(refine pure_ (i := 41) (N := (some 172)) (v := ?_) (a' := ?_) #[true,true,true,true,true,true,true,true,true,true,true,true,true,true,true,true,true,true,true,true,true,true,true,true,true,true,true,true,true,true,true,true,true,true,true,true,true,true,true,true,true,true,false,false,false,false,false,false,false] rfl rfl (any_of HT_.out (by kernel_rfl)) (fun _ _ _ h => h) (Or.inl ⟨by rfl,?_⟩) ?_ ?_
               rotate_left
               ·intro w'
                go_simp
                with_reducible rfl
               rotate_left
               ·simp only [Act.put,zYTrKa,zYTrKb,zYTrKc]
                rfl)
             |(refine pure_ (i := 41) (N := (some 172)) (v := undef) (a' := ?_) #[true,true,true,true,true,true,true,true,true,true,true,true,true,true,true,true,true,true,true,true,true,true,true,true,true,true,true,true,true,true,true,true,true,true,true,true,true,true,true,true,true,true,false,false,false,false,false,false,false] rfl rfl (any_of HT_.out (by kernel_rfl)) (fun _ _ _ h => h) (Or.inr ⟨by rfl,rfl⟩) ?_ ?_
               rotate_left
               ·simp only [Act.put,zYTrKa,zYTrKb,zYTrKc]
                rfl)
             refine pure_ (i := 42) (N := (some 173)) (v := ?_) (a' := ?_) #[true,true,true,true,true,true,true,true,true,true,true,true,true,true,true,true,true,true,true,true,true,true,true,true,true,true,true,true,true,true,true,true,true,true,true,true,true,true,true,true,true,true,true,false,false,false,false,false,false] rfl rfl (any_of HT_.out (by kernel_rfl)) (fun _ _ _ h => h) (Or.inl ⟨by rfl,?_⟩) ?_ ?_
             rotate_left
             ·intro w'
              go_simp
              with_reducible rfl
             rotate_left
             ·simp only [Act.put,zYTrKa,zYTrKb,zYTrKc]
              rfl
             refine pure_ (i := 43) (N := (some 174)) (v := ?_) (a' := ?_) #[true,true,true,true,true,true,true,true,true,true,true,true,true,true,true,true,true,true,true,true,true,true,true,true,true,true,true,true,true,true,true,true,true,true,true,true,true,true,true,true,true,true,true,true,false,false,false,false,false] rfl rfl (any_of HT_.out (by kernel_rfl)) (fun _ _ _ h => h) (Or.inl ⟨by rfl,?_⟩) ?_ ?_
             rotate_left
             ·intro w'
              go_simp
              with_reducible rfl
             rotate_left
             ·simp only [Act.put,zYTrKa,zYTrKb,zYTrKc]
              rfl
             first
             |(refine pure_ (i := 44) (N := (some 175)) (v := ?_) (a' := ?_) #[true,true,true,true,true,true,true,true,true,true,true,true,true,true,true,true,true,true,true,true,true,true,true,true,true,true,true,true,true,true,true,true,true,true,true,true,true,true,true,true,true,true,true,true,true,false,false,false,false] rfl rfl (any_of HT_.out (by kernel_rfl)) (fun _ _ _ h => h) (Or.inl ⟨by rfl,?_⟩) ?_ ?_
               rotate_left
               ·intro w'
                go_simp
                with_reducible rfl
               rotate_left
               ·simp only [Act.put,zYTrKa,zYTrKb,zYTrKc]
                rfl)
             |(refine pure_ (i := 44) (N := (some 175)) (v := undef) (a' := ?_) #[true,true,true,true,true,true,true,true,true,true,true,true,true,true,true,true,true,true,true,true,true,true,true,true,true,true,true,true,true,true,true,true,true,true,true,true,true,true,true,true,true,true,true,true,true,false,false,false,false] rfl rfl (any_of HT_.out (by kernel_rfl)) (fun _ _ _ h => h) (Or.inr ⟨by rfl,rfl⟩) ?_ ?_
               rotate_left
               ·simp only [Act.put,zYTrKa,zYTrKb,zYTrKc]
                rfl)
             first
             |(refine take_ (i := 45) (N := (some 176)) (v := ?_) (a' := ?_) #[true,true,true,true,true,true,true,true,true,true,true,true,true,true,true,true,true,true,true,true,true,true,true,true,true,true,true,true,true,true,true,true,true,true,true,true,true,true,true,true,true,true,true,true,true,true,false,false,false] rfl rfl (take_ofW HT_.out HW_.out (by kernel_rfl)) (fun _ _ _ h => h) (Or.inl ⟨by rfl,?_⟩) hHeld ?_ ?_
               rotate_left
               ·rintro w' ⟨s0,s1,s2,s3,s4,s5,s6,_⟩
                go_simp
                with_reducible rfl
               rotate_left
               ·simp only [Act.put,zYTrKa,zYTrKb,zYTrKc]
                rfl)
             |(refine pure_ (i := 45) (N := (some 176)) (v := undef) (a' := ?_) #[true,true,true,true,true,true,true,true,true,true,true,true,true,true,true,true,true,true,true,true,true,true,true,true,true,true,true,true,true,true,true,true,true,true,true,true,true,true,true,true,true,true,true,true,true,true,false,false,false] rfl rfl (any_of HT_.out (by kernel_rfl)) (fun _ _ _ h => h) (Or.inr ⟨by rfl,rfl⟩) ?_ ?_
               rotate_left
               ·simp only [Act.put,zYTrKa,zYTrKb,zYTrKc]
                rfl)
             first
             |(refine pure_ (i := 46) (N := (some 177)) (v := ?_) (a' := ?_) #[true,true,true,true,true,true,true,true,true,true,true,true,true,true,true,true,true,true,true,true,true,true,true,true,true,true,true,true,true,true,true,true,true,true,true,true,true,true,true,true,true,true,true,true,true,true,true,false,false] rfl rfl (any_of HT_.out (by kernel_rfl)) (fun _ _ _ h => h) (Or.inl ⟨by rfl,?_⟩) ?_ ?_
               rotate_left
               ·intro w'
                go_simp
                with_reducible rfl
               rotate_left
               ·simp only [Act.put,zYTrKa,zYTrKb,zYTrKc]
                rfl)
             |(refine pure_ (i := 46) (N := (some 177)) (v := undef) (a' := ?_) #[true,true,true,true,true,true,true,true,true,true,true,true,true,true,true,true,true,true,true,true,true,true,true,true,true,true,true,true,true,true,true,true,true,true,true,true,true,true,true,true,true,true,true,true,true,true,true,false,false] rfl rfl (any_of HT_.out (by kernel_rfl)) (fun _ _ _ h => h) (Or.inr ⟨by rfl,rfl⟩) ?_ ?_
               rotate_left
               ·simp only [Act.put,zYTrKa,zYTrKb,zYTrKc]
                rfl)
             refine pure_ (i := 47) (N := (some 178)) (v := ?_) (a' := ?_) #[true,true,true,true,true,true,true,true,true,true,true,true,true,true,true,true,true,true,true,true,true,true,true,true,true,true,true,true,true,true,true,true,true,true,true,true,true,true,true,true,true,true,true,true,true,true,true,true,false] rfl rfl (any_of HT_.out (by kernel_rfl)) (fun _ _ _ h => h) (Or.inl ⟨by rfl,?_⟩) ?_ ?_
             rotate_left
             ·intro w'
              go_simp
              with_reducible rfl
             rotate_left
             ·simp only [Act.put,zYTrKa,zYTrKb,zYTrKc]
              rfl
             refine pure_ (i := 48) (N := (some 130)) (v := ?_) (a' := ?_) #[true,true,true,true,true,true,true,true,true,true,true,true,true,true,true,true,true,true,true,true,true,true,true,true,true,true,true,true,true,true,true,true,true,true,true,true,true,true,true,true,true,true,true,true,true,true,true,true,true] rfl rfl (any_of HT_.out (by kernel_rfl)) (fun _ _ _ h => h) (Or.inl ⟨by rfl,?_⟩) ?_ ?_
             rotate_left
             ·intro w'
              go_simp
              with_reducible rfl
             rotate_left
             ·simp only [Act.put,zYTrKa,zYTrKb,zYTrKc]
              rfl
             refine done_ (done_of HT_.out (by kernel_rfl)) ?_
             go_wp2_with fail
             go_meet
             case rel => exact ⟨by rw [HTWB.out];first | rfl | (simp only [Bool.and_true,Bool.true_and,Bool.and_false,Bool.false_and];done),Lib.hid hB5⟩
          case rest =>
           obtain ⟨rfl,HB5⟩ := hcut
           cases htb : twoB (i : Int) e x with
           | true => as_aux_lemma =>
            have HN2 : Hid (refBegin (l0.drop (i + 1)) (out ++ [rd out x.f1]) = r) := Lib.hid (by rw [← HST.out,HSS2.out,if_neg (by rw [hov];decide),if_pos htb])
            have hall := HTWB.out
            rw [htb] at hall
            simp only [Bool.true_eq,Bool.and_eq_true] at hall
            obtain ⟨_,q1,_,q3,q4,_⟩ := hall
            rw [q1] at hi1
            rw [q3] at hog
            rw [q4] at haa
            have h2i : 1 < (i : Int) := of_decide_eq_true hi1
            have h0e : 0 < e := of_decide_eq_true hog
            have hf1 : x.f1 = e - 1 := by simpa using haa
            have hj := HJ.out.1
            have hFj := HF.out (i - 1) (by omega)
            rw [show ((i - 1 : Nat) : Int) = j by omega,HJ.out.2] at hFj
            have hFx := HF.out x.f1.toNat (by omega)
            rw [show ((x.f1.toNat : Nat) : Int) = x.f1 by omega] at hFx
            have hC5 := (Kd.R_reads' (HOW.out _ HB5.out)).2.2
            obtain ⟨ad2,rfl,hxo⟩ := Kd.at_int hC5 x.f1 (by omega) (by omega)
            obtain ⟨s0,s1,s2,s3,s4,s5,s6,_⟩ := KS.out _ HB5.out
            have pf : (0 ≤ x.f1) = True := eq_true (by omega)
            have qf : (x.f1 < (i : Int)) = True := eq_true (by omega)
            have HFX := Lib.hid (And.intro hFx (show x.f1 ≤ (i : Int) by omega))
            clear hov htb hC q1 q3 q4 h2i h0e hf1 hj hFj hFx hC5 hi1 hog haa
            go_wp2_with (first | ((with_reducible refine gate_builtin (b := .append) (xs := #[.tmp 179,.tmp 185]) rfl ?_);at_builtin;refine Kd.R_append (Kd.int .i64) (w0 := w) w.heap.size rfl (.tmp 179) (.tmp 185) 56 3 (.int .i64 0) 8 rfl Tryd.underlying56 infoInt rfl (by decide) (by omega) (.slice (some ad2) i co) out (rd out x.f1) [.int .i64 (rd out x.f1)] (fun _ => True) (fun _ => False) rfl rfl ?aP (fun _ hk => hk.elim) ?aF ?aO ?aB ?aS ?aL ?_;(case aP => exact rfl);(case aF => exact fun _ _ => trivial);(case aO => exact Kd.R_mono (HOW.out _ HB5.out) (fun _ _ => trivial));(case aB => exact (HBW.out _ HB5.out));(case aS => exact (HBW.out _ HB5.out).size);(case aL => have := HOL.out;omega);intro v1 w2 hO2 hB2 hg2 _;have HO2 := Lib.hid hO2;have HB2 := Lib.hid hB2;clear hO2 hB2 hg2))
            exact ⟨⟨i + 1,out ++ [rd out x.f1],by go_num,by omega,by rw [List.length_append,HOL.out.1];rfl,Lib.hid (fromOk_snoc HF.out (by have := HFX.out;omega) (by have := HFX.out;have := HOL.out;omega)),HO2,HN2,HB2⟩,by simp [intOf];omega⟩
           | false =>
            have hr : r = [] := by rw [← HST.out,HSS2.out,if_neg (by rw [hov];decide),if_neg (by rw [htb];decide)]
            clear hov htb hC
            go_wp2_with fail
            go_ret
            exact ⟨_,rfl,by rw [hr];exact Kd.R_nil _ _ _ _ _,HBW.out _ HB5.out⟩
  ·obtain rfl : i = n := by omega
   have hlti : ((i : Int) < (i : Int)) = False := eq_false (by omega)
   have hr : r = out := by rw [← HE.out,List.drop_eq_nil_of_le (by rw [HN.out];exact Nat.le_refl _)];rfl
   have HOO := HO
   rw [hoi] at HOO
   go_wp2_with fail
   go_ret
   exact ⟨_,rfl,by rw [hr];exact HOO.out,HB.out⟩
end Go.Proofs.YtcajdkncohcaeaaDoor
