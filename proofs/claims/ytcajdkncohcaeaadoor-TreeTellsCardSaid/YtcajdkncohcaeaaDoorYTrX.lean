import Derived.Test.YtcajdkncohcaeaaDoorYTrM
import Derived.Test.YtcajdkncohcaeaaDoorYLx
import Derived.Lib.SmallJoins
import Derived.Below
namespace Go.Proofs.YtcajdkncohcaeaaDoor
set_option linter.unusedVariables false
set_option linter.unusedSimpArgs false
open Go.ChangeShapes Go.WideShapes Go.ChangeAt Go.RowKit Go.Deep
open GTree (S52 k52)
theorem laidOut : laidOutB Tryd.prog = true := by kernel_rfl
set_option maxRecDepth 100000 in
theorem asked_open {H : Type} {enc : TypeId × Value → H} {w : World} {b0 : Nat} {r : Reach} {sp : Nat → Bool} {held : Bool} {v : Value} {d : DataW H} {ps : List MemPlace}
 (hval : Value.okWide Tryd.prog w r b0 41 v) (hd : DataW.Trod enc Tryd.prog w 0 sp held 41 v d ps) :
 ∃ (s u : ByteArray) (m n : Int),v = .agg #[.string s,.string u,.int .i64 m,.int .i64 n] := by
 obtain ⟨cs,rfl,hsz⟩ := okWide_struct Tryd.underlying41 hval
 obtain ⟨l⟩ := cs
 obtain ⟨fuel,hf⟩ := hd
 replace hf : DataW.trod enc Tryd.prog w 0 sp held fuel 41 l = some (d,ps) := hf
 have hc : Tryd.prog.cellsOf 41 = 4 := by kernel_rfl
 have h1 : Tryd.prog.cellsOf 3 = 1 := by kernel_rfl
 have h2 : Tryd.prog.cellsOf 9 = 1 := by kernel_rfl
 rw [hc] at hsz
 obtain ⟨xs,m,rfl,_,hl,hx,hg⟩ := DataW.trod_struct Tryd.underlying41 hf
 obtain ⟨v0,v1,v2,v3,rfl⟩ : ∃ a b c d,l = [a,b,c,d] := by
  match l,hsz with
  | [a,b,c,d],_ => exact ⟨a,b,c,d,rfl⟩
 obtain ⟨y0,y1,y2,y3,rfl⟩ : ∃ a b c d,xs = [a,b,c,d] := by
  match xs,hx with
  | [a,b,c,d],_ => exact ⟨a,b,c,d,rfl⟩
 have g0 : DataW.trod enc Tryd.prog w 0 sp held m 9 ((([v0,v1,v2,v3] : List Value).drop 0).take (Tryd.prog.cellsOf 9)) = some y0 := hg 0 _ rfl
 have g1 : DataW.trod enc Tryd.prog w 0 sp held m 9 ((([v0,v1,v2,v3] : List Value).drop 1).take (Tryd.prog.cellsOf 9)) = some y1 := hg 1 _ rfl
 have g2 : DataW.trod enc Tryd.prog w 0 sp held m 3 ((([v0,v1,v2,v3] : List Value).drop 2).take (Tryd.prog.cellsOf 3)) = some y2 := hg 2 _ rfl
 have g3 : DataW.trod enc Tryd.prog w 0 sp held m 3 ((([v0,v1,v2,v3] : List Value).drop 3).take (Tryd.prog.cellsOf 3)) = some y3 := hg 3 _ rfl
 rw [h2] at g0 g1
 rw [h1] at g2 g3
 obtain ⟨s0,e0,_,_⟩ := DataW.trod_string Tryd.underlying9 g0
 obtain ⟨s1,e1,_,_⟩ := DataW.trod_string Tryd.underlying9 g1
 obtain ⟨n2,e2,_,_⟩ := DataW.trod_int Tryd.underlying3 g2
 obtain ⟨n3,e3,_,_⟩ := DataW.trod_int Tryd.underlying3 g3
 simp at e0 e1 e2 e3
 subst e0 e1 e2 e3
 exact ⟨s0,s1,n2,n3,rfl⟩
end Go.Proofs.YtcajdkncohcaeaaDoor
