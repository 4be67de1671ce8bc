import Derived.Test.YtcajdkncohcaeaaDoorProg
import Derived.Test.YtcajdkncohcaeaaDoorRows
import Derived.Below
import Derived.Deep.Draws
import Derived.OwnWalk
import Derived.Tactics
import Derived.WalkKit
import Derived.KernelRfl
import Derived.RowKit3
import Derived.Deep.LoopGhost
import Derived.Deep.QuietTactic
import Derived.BigQuiet
import Derived.WideLaws
import Derived.Lib.Hide
import Derived.Outline
namespace Go.Proofs.YtcajdkncohcaeaaDoor
set_option linter.unusedVariables false
set_option linter.unusedSimpArgs false
open Go.RowKit

def isLetter (c : Nat) : Bool := (97 ≤ c && c ≤ 122) || (65 ≤ c && c ≤ 90) || c == 95
def isDigit (c : Nat) : Bool := 48 ≤ c && c ≤ 57
def kindOf (c : Nat) : Int :=
  if c == 32 || c == 9 || c == 10 then 1 else if isLetter c then 2 else if isDigit c then 3
  else if c == 40 || c == 41 || c == 43 || c == 45 || c == 42 || c == 47 || c == 94 || c == 61 || c == 59 || c == 58 then 4
  else if c == 35 then 5 else if c == 91 then 6 else 0

def bs (l : List UInt8) : ByteArray := ⟨l.toArray⟩
/-- the words that are no names -/
def wordsZ : List ByteArray := [bs [117, 110, 105, 116], bs [115, 111, 117, 114, 99, 101], bs [99, 111, 118], bs [108, 101, 116], bs [111, 117, 116, 112, 117, 116], bs [105, 110]]
structure Glob (w : World) : Prop where
  kinds : ∀ i : Nat, i < 128 → w.cell? ⟨2, i, none⟩ = some (.int .i64 (kindOf i))
  digit : ∀ i : Nat, i < 256 → w.cell? ⟨3, i, none⟩ = some (.bool (isDigit i))
  words : ∀ j : Nat, j < wordsZ.length → w.cell? ⟨0, j, none⟩ = some (.string (wordsZ.getD j ByteArray.empty))

theorem kindOf_big {c : Nat} (h : 128 ≤ c) : kindOf c = 0 := by
  unfold kindOf isLetter isDigit
  simp; omega

set_option maxRecDepth 20000 in
set_option maxHeartbeats 400000 in
theorem kind_any (c : Nat) (w : World) (h1 : c ≤ 255) (hG : Glob w) :
    Calls Tryd.prog 71 #[.int .u8 c] w fun e w' => e = .returned (.int .i64 (kindOf c)) ∧ w = w' := by
  by_cases hb : c < 128
  · have hc := hG.kinds c (by omega)
    clear hG
    go_enter Tryd.func71, Tryd.ntmps71
    go_wp2
    go_ret
    exact ⟨rfl, rfl⟩
  · have e := kindOf_big (c := c) (by omega)
    have he := Lib.hid e
    clear e hG
    go_enter Tryd.func71, Tryd.ntmps71
    go_wp2
    go_ret
    exact ⟨by rw [he.out]; rfl, rfl⟩
end Go.Proofs.YtcajdkncohcaeaaDoor
