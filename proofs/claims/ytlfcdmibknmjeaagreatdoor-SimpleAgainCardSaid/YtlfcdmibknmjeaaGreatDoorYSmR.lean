import Derived.Test.YtlfcdmibknmjeaaGreatDoorYSmMc
import Derived.Test.YtlfcdmibknmjeaaGreatDoorRows
import Derived.Test.YtlfcdmibknmjeaaGreatDoorTie
import Derived.Test.YtlfcdmibknmjeaaGreatDoorCards
import Derived.WalkKit
import Derived.ProofKit
import Derived.OpenShut
import Derived.ShutString
import Derived.ChangeOld
import Derived.Below
import Derived.SizedLaws
import Derived.SevenTiedAt
import Derived.LaidMore
import Derived.Stop.Joined
import Derived.Lib.LaidTab
import Derived.Lib.SmallJoins
namespace Go.Proofs.YtlfcdmibknmjeaaGreatDoor
set_option linter.unusedVariables false
set_option linter.unusedSimpArgs false
open Go.ChangeShapes Go.WideShapes Go.ChangeAt Go.RowKit
open E Ev
theorem own:ownKnob Tryz.prog.godebug=none:=by kernel_rfl
def tenLaid : List (String × DataW Unit) := [("steelyard/digits.tens", Rows.laid_steelyard_digits_tens)]
theorem door_met (os:Os) (args:Array Value):laidMetH Tryz.prog tenLaid ((World.doorLaid Tryz.prog 400 os).forCall (fun _ _=>0) ⟨#[],args,[]⟩).memory :=
 laidMetH_of_parts3 (fuel:=8) (laidMet_of_run' 8 (by kernel_rfl) (by kernel_rfl)) (by kernel_rfl) (by kernel_rfl)
theorem door_shaped (os:Os):((World.doorLaid Tryz.prog 400 os).forCall (fun _ _=>0) ⟨#[],#[],[]⟩).Shaped Tryz.prog:=World.shaped_of_RefB (by kernel_rfl) (by kernel_rfl)
theorem laidOut:laidOutB Tryz.prog=true:=by kernel_rfl
theorem tens_laid:(Rows.laid_steelyard_digits_tens:DataW Unit)=.agg ((gv0.map (litOf (.int .u32))).map .lit):=by kernel_rfl
theorem gTens : Tryz.prog.globalNamed "steelyard/digits.tens" = some 0 := by kernel_rfl
theorem tTens:(Tryz.prog.globals[0]?).map (·.type)=some 183:=by kernel_rfl
theorem glob_of_laid {W:World} (h:laidMetH Tryz.prog tenLaid W):GOk G0 W (Whole W):=by
 rw [MakeChecks.laidMetH_plain _ _ _ (by kernel_rfl)] at h
 obtain ⟨ps,⟨g0,t0,cs0,f0,p0,q0,hg0,ht0,hv0,hd0,_,_⟩,_,_⟩:=h
 obtain rfl:=Option.some.inj (gTens.symm.trans hg0)
 obtain rfl:=Option.some.inj (tTens.symm.trans ht0)
 rw [tens_laid] at hd0
 have c0:=Ev.cells_of_lits Tryz.underlying183 (by kernel_rfl) (by kernel_rfl) (Ev.lit_int Tryz.underlying111) hd0
 have k0:=gok_lits (t:=.int .u32) (n:=10) (xs:=gv0) rfl (by kernel_rfl) hg0 hv0 c0
 intro v hv
 simp only [G0,List.mem_cons,List.not_mem_nil,or_false] at hv
 subst hv
 exact k0
theorem limbs_of {C:CO} (h:Wf (.list api_Term) C):Limbs C:=fun t ht=>by
 have lb:∀ l:List Int,Wf (.list (.int .u32)) l→Lb l:=fun l hl x hx=>by
  have hw:(Lit.int .u32 x).wf=true:=hl.2 x hx
  have e1:IntKind.u32.min=0:=rfl
  have e2:IntKind.u32.max=4294967295:=rfl
  simp [Lit.wf] at hw
  omega
 obtain ⟨_,_,_,_,⟨⟨_,h1,_⟩,h2,_⟩,_⟩:=h.2 t ht
 exact ⟨lb _ h1,lb _ h2⟩
end Go.Proofs.YtlfcdmibknmjeaaGreatDoor
