/-
  NARROWER THAN 'FOR EVERY INPUT', by the rows' own cells (each row's printed sentence says how): NamesTell: laid · NamesAhead: laid · NamesFirst: laid · NamesTwice: laid.
  DERIVED. THE GIVEN ROWS OF THIS SEAT. 4 by the template 'for every input the law returns true; each argument reads behind the call as it read before'; 0 by the template 'total and deterministic' (their statements: YtlfcdmibknmjeaaDoorTotals.lean).
  GIVEN WITH THE SEED: the statements are not yours to turn. If you find one false, say at which input.
  Laid BY PROGRAM, IN A SANDBOX (cutbox-rows.mjs): the forced cells as the released guide's own fill.sh prints them over the translation ef9dde78b704a8c6… (all of the seat's roots in one cut). By AI agents, Wed Nov 11 2026. No macro, syntax, notation, axiom, sorry.
-/
import Derived.Test.YtlfcdmibknmjeaaDoorChecked
import GoSem.Claim
import GoSem.ClaimJoined
import GoSem.ClaimMapViews
import Derived.JoinedTies
import Derived.KernelRfl
namespace Go.Proofs.YtlfcdmibknmjeaaDoor
/- THE CELL 'sum', in the pinned program and in every row, IS THE sha256 OF THE DUMP (.gsa) THAT YtlfcdmibknmjeaaDoorProg.lean LOADS. Nothing in Lean hashes anything: it is a label: what it is worth is what the hold of that sum in a sandbox is worth. -/
noncomputable def Tryd.pinned : Pinned := { name := "ytlfcdmibknmjeaadoor", sum := "ef9dde78b704a8c61210ad1f6768ac7e05b5c48145dfcaa986b3269629fc2a49", checked := Tryd.checked }
namespace Rows
def none {H : Type} : Left H := { results := [], args := [] }

/- WHAT THE LISTED PACKAGE-LEVEL VARIABLES READ AS WHEN THE CALL BEGINS. Each datum BY PROGRAM (the guide's laid-datum.mjs) off the statement by which the dump's own 'gosem.cut.vars' lays the variable. In a bare row this is a premise. The card (YtlfcdmibknmjeaaDoorCards.lean) ties it to the program's text. -/
def laid_steelyard_literal_digit {H : Type} : DataW H := .agg [.lit (.bool false), .lit (.bool false), .lit (.bool false), .lit (.bool false), .lit (.bool false), .lit (.bool false), .lit (.bool false), .lit (.bool false), .lit (.bool false), .lit (.bool false), .lit (.bool false), .lit (.bool false), .lit (.bool false), .lit (.bool false), .lit (.bool false), .lit (.bool false), .lit (.bool false), .lit (.bool false), .lit (.bool false), .lit (.bool false), .lit (.bool false), .lit (.bool false), .lit (.bool false), .lit (.bool false), .lit (.bool false), .lit (.bool false), .lit (.bool false), .lit (.bool false), .lit (.bool false), .lit (.bool false), .lit (.bool false), .lit (.bool false), .lit (.bool false), .lit (.bool false), .lit (.bool false), .lit (.bool false), .lit (.bool false), .lit (.bool false), .lit (.bool false), .lit (.bool false), .lit (.bool false), .lit (.bool false), .lit (.bool false), .lit (.bool false), .lit (.bool false), .lit (.bool false), .lit (.bool false), .lit (.bool false), .lit (.bool true), .lit (.bool true), .lit (.bool true), .lit (.bool true), .lit (.bool true), .lit (.bool true), .lit (.bool true), .lit (.bool true), .lit (.bool true), .lit (.bool true), .lit (.bool false), .lit (.bool false), .lit (.bool false), .lit (.bool false), .lit (.bool false), .lit (.bool false), .lit (.bool false), .lit (.bool false), .lit (.bool false), .lit (.bool false), .lit (.bool false), .lit (.bool false), .lit (.bool false), .lit (.bool false), .lit (.bool false), .lit (.bool false), .lit (.bool false), .lit (.bool false), .lit (.bool false), .lit (.bool false), .lit (.bool false), .lit (.bool false), .lit (.bool false), .lit (.bool false), .lit (.bool false), .lit (.bool false), .lit (.bool false), .lit (.bool false), .lit (.bool false), .lit (.bool false), .lit (.bool false), .lit (.bool false), .lit (.bool false), .lit (.bool false), .lit (.bool false), .lit (.bool false), .lit (.bool false), .lit (.bool false), .lit (.bool false), .lit (.bool false), .lit (.bool false), .lit (.bool false), .lit (.bool false), .lit (.bool false), .lit (.bool false), .lit (.bool false), .lit (.bool false), .lit (.bool false), .lit (.bool false), .lit (.bool false), .lit (.bool false), .lit (.bool false), .lit (.bool false), .lit (.bool false), .lit (.bool false), .lit (.bool false), .lit (.bool false), .lit (.bool false), .lit (.bool false), .lit (.bool false), .lit (.bool false), .lit (.bool false), .lit (.bool false), .lit (.bool false), .lit (.bool false), .lit (.bool false), .lit (.bool false), .lit (.bool false), .lit (.bool false), .lit (.bool false), .lit (.bool false), .lit (.bool false), .lit (.bool false), .lit (.bool false), .lit (.bool false), .lit (.bool false), .lit (.bool false), .lit (.bool false), .lit (.bool false), .lit (.bool false), .lit (.bool false), .lit (.bool false), .lit (.bool false), .lit (.bool false), .lit (.bool false), .lit (.bool false), .lit (.bool false), .lit (.bool false), .lit (.bool false), .lit (.bool false), .lit (.bool false), .lit (.bool false), .lit (.bool false), .lit (.bool false), .lit (.bool false), .lit (.bool false), .lit (.bool false), .lit (.bool false), .lit (.bool false), .lit (.bool false), .lit (.bool false), .lit (.bool false), .lit (.bool false), .lit (.bool false), .lit (.bool false), .lit (.bool false), .lit (.bool false), .lit (.bool false), .lit (.bool false), .lit (.bool false), .lit (.bool false), .lit (.bool false), .lit (.bool false), .lit (.bool false), .lit (.bool false), .lit (.bool false), .lit (.bool false), .lit (.bool false), .lit (.bool false), .lit (.bool false), .lit (.bool false), .lit (.bool false), .lit (.bool false), .lit (.bool false), .lit (.bool false), .lit (.bool false), .lit (.bool false), .lit (.bool false), .lit (.bool false), .lit (.bool false), .lit (.bool false), .lit (.bool false), .lit (.bool false), .lit (.bool false), .lit (.bool false), .lit (.bool false), .lit (.bool false), .lit (.bool false), .lit (.bool false), .lit (.bool false), .lit (.bool false), .lit (.bool false), .lit (.bool false), .lit (.bool false), .lit (.bool false), .lit (.bool false), .lit (.bool false), .lit (.bool false), .lit (.bool false), .lit (.bool false), .lit (.bool false), .lit (.bool false), .lit (.bool false), .lit (.bool false), .lit (.bool false), .lit (.bool false), .lit (.bool false), .lit (.bool false), .lit (.bool false), .lit (.bool false), .lit (.bool false), .lit (.bool false), .lit (.bool false), .lit (.bool false), .lit (.bool false), .lit (.bool false), .lit (.bool false), .lit (.bool false), .lit (.bool false), .lit (.bool false), .lit (.bool false), .lit (.bool false), .lit (.bool false), .lit (.bool false), .lit (.bool false), .lit (.bool false), .lit (.bool false), .lit (.bool false), .lit (.bool false), .lit (.bool false), .lit (.bool false), .lit (.bool false), .lit (.bool false), .lit (.bool false), .lit (.bool false), .lit (.bool false), .lit (.bool false), .lit (.bool false), .lit (.bool false), .lit (.bool false), .lit (.bool false), .lit (.bool false), .lit (.bool false), .lit (.bool false), .lit (.bool false), .lit (.bool false), .lit (.bool false), .lit (.bool false)]
def laid_steelyard_lex_kinds {H : Type} : DataW H := .agg [.lit (.int .i64 0), .lit (.int .i64 0), .lit (.int .i64 0), .lit (.int .i64 0), .lit (.int .i64 0), .lit (.int .i64 0), .lit (.int .i64 0), .lit (.int .i64 0), .lit (.int .i64 0), .lit (.int .i64 1), .lit (.int .i64 1), .lit (.int .i64 0), .lit (.int .i64 0), .lit (.int .i64 0), .lit (.int .i64 0), .lit (.int .i64 0), .lit (.int .i64 0), .lit (.int .i64 0), .lit (.int .i64 0), .lit (.int .i64 0), .lit (.int .i64 0), .lit (.int .i64 0), .lit (.int .i64 0), .lit (.int .i64 0), .lit (.int .i64 0), .lit (.int .i64 0), .lit (.int .i64 0), .lit (.int .i64 0), .lit (.int .i64 0), .lit (.int .i64 0), .lit (.int .i64 0), .lit (.int .i64 0), .lit (.int .i64 1), .lit (.int .i64 0), .lit (.int .i64 0), .lit (.int .i64 5), .lit (.int .i64 0), .lit (.int .i64 0), .lit (.int .i64 0), .lit (.int .i64 0), .lit (.int .i64 4), .lit (.int .i64 4), .lit (.int .i64 4), .lit (.int .i64 4), .lit (.int .i64 0), .lit (.int .i64 4), .lit (.int .i64 0), .lit (.int .i64 4), .lit (.int .i64 3), .lit (.int .i64 3), .lit (.int .i64 3), .lit (.int .i64 3), .lit (.int .i64 3), .lit (.int .i64 3), .lit (.int .i64 3), .lit (.int .i64 3), .lit (.int .i64 3), .lit (.int .i64 3), .lit (.int .i64 4), .lit (.int .i64 4), .lit (.int .i64 0), .lit (.int .i64 4), .lit (.int .i64 0), .lit (.int .i64 0), .lit (.int .i64 0), .lit (.int .i64 2), .lit (.int .i64 2), .lit (.int .i64 2), .lit (.int .i64 2), .lit (.int .i64 2), .lit (.int .i64 2), .lit (.int .i64 2), .lit (.int .i64 2), .lit (.int .i64 2), .lit (.int .i64 2), .lit (.int .i64 2), .lit (.int .i64 2), .lit (.int .i64 2), .lit (.int .i64 2), .lit (.int .i64 2), .lit (.int .i64 2), .lit (.int .i64 2), .lit (.int .i64 2), .lit (.int .i64 2), .lit (.int .i64 2), .lit (.int .i64 2), .lit (.int .i64 2), .lit (.int .i64 2), .lit (.int .i64 2), .lit (.int .i64 2), .lit (.int .i64 2), .lit (.int .i64 6), .lit (.int .i64 0), .lit (.int .i64 0), .lit (.int .i64 4), .lit (.int .i64 2), .lit (.int .i64 0), .lit (.int .i64 2), .lit (.int .i64 2), .lit (.int .i64 2), .lit (.int .i64 2), .lit (.int .i64 2), .lit (.int .i64 2), .lit (.int .i64 2), .lit (.int .i64 2), .lit (.int .i64 2), .lit (.int .i64 2), .lit (.int .i64 2), .lit (.int .i64 2), .lit (.int .i64 2), .lit (.int .i64 2), .lit (.int .i64 2), .lit (.int .i64 2), .lit (.int .i64 2), .lit (.int .i64 2), .lit (.int .i64 2), .lit (.int .i64 2), .lit (.int .i64 2), .lit (.int .i64 2), .lit (.int .i64 2), .lit (.int .i64 2), .lit (.int .i64 2), .lit (.int .i64 2), .lit (.int .i64 0), .lit (.int .i64 0), .lit (.int .i64 0), .lit (.int .i64 0), .lit (.int .i64 0)]
def laid_steelyard_lex_words {H : Type} : DataW H := .agg [.lit (.string [117, 110, 105, 116]), .lit (.string [115, 111, 117, 114, 99, 101]), .lit (.string [99, 111, 118]), .lit (.string [108, 101, 116]), .lit (.string [111, 117, 116, 112, 117, 116]), .lit (.string [105, 110])]

/-- 'steelyardlaw17.NamesTell': WHATEVER THE INPUT: true; the input reads as it did. -/
def namesTellSpec : ChangeSpec := { name := "namesTell", fn := fun _ => fun
  | [d1, d2, d3] => { results := [.lit (.bool true)], args := [d1, d2, d3] }
  | _ => none }
def namesTellRow : OpenClaim := { program := "ytlfcdmibknmjeaadoor", sum := "ef9dde78b704a8c61210ad1f6768ac7e05b5c48145dfcaa986b3269629fc2a49", func := "steelyard/steelyardlaw17.NamesTell", spec := "namesTell", inPlace := ["internal/bytealg.IndexByteString", "internal/bytealg.IndexString"], recurses := true, named := ["steelyard/lex.words", "steelyard/lex.kinds", "steelyard/literal.digit", "internal/bytealg.MaxLen"], plainKeys := false, apart := false, laid := [("steelyard/literal.digit", laid_steelyard_literal_digit), ("steelyard/lex.kinds", laid_steelyard_lex_kinds), ("steelyard/lex.words", laid_steelyard_lex_words)] }
def NamesTellSaid : Prop := namesTellRow.holds Tryd.pinned (OpenSpec.ofChange namesTellSpec)

/-- ITS FALSE NEIGHBOUR: 'it returns false'. Refute it at one input. -/
def namesTellWrong : ChangeSpec := { name := "namesTell", fn := fun _ => fun
  | [d1, d2, d3] => { results := [.lit (.bool false)], args := [d1, d2, d3] }
  | _ => none }
def NamesTellWrongFalsely : Prop := namesTellRow.holds Tryd.pinned (OpenSpec.ofChange namesTellWrong)

/-- 'steelyardlaw17.NamesAhead': WHATEVER THE INPUT: true; the input reads as it did. -/
def namesAheadSpec : ChangeSpec := { name := "namesAhead", fn := fun _ => fun
  | [d] => { results := [.lit (.bool true)], args := [d] }
  | _ => none }
def namesAheadRow : OpenClaim := { program := "ytlfcdmibknmjeaadoor", sum := "ef9dde78b704a8c61210ad1f6768ac7e05b5c48145dfcaa986b3269629fc2a49", func := "steelyard/steelyardlaw17.NamesAhead", spec := "namesAhead", inPlace := ["internal/bytealg.IndexByteString", "internal/bytealg.IndexString"], recurses := true, named := ["steelyard/lex.words", "steelyard/lex.kinds", "steelyard/literal.digit", "internal/bytealg.MaxLen"], plainKeys := false, apart := false, laid := [("steelyard/literal.digit", laid_steelyard_literal_digit), ("steelyard/lex.kinds", laid_steelyard_lex_kinds), ("steelyard/lex.words", laid_steelyard_lex_words)] }
def NamesAheadSaid : Prop := namesAheadRow.holds Tryd.pinned (OpenSpec.ofChange namesAheadSpec)

/-- ITS FALSE NEIGHBOUR: 'it returns false'. Refute it at one input. -/
def namesAheadWrong : ChangeSpec := { name := "namesAhead", fn := fun _ => fun
  | [d] => { results := [.lit (.bool false)], args := [d] }
  | _ => none }
def NamesAheadWrongFalsely : Prop := namesAheadRow.holds Tryd.pinned (OpenSpec.ofChange namesAheadWrong)

/-- 'steelyardlaw17.NamesFirst': WHATEVER THE INPUT: true; the input reads as it did. -/
def namesFirstSpec : ChangeSpec := { name := "namesFirst", fn := fun _ => fun
  | [d1, d2] => { results := [.lit (.bool true)], args := [d1, d2] }
  | _ => none }
def namesFirstRow : OpenClaim := { program := "ytlfcdmibknmjeaadoor", sum := "ef9dde78b704a8c61210ad1f6768ac7e05b5c48145dfcaa986b3269629fc2a49", func := "steelyard/steelyardlaw17.NamesFirst", spec := "namesFirst", inPlace := ["internal/bytealg.IndexByteString", "internal/bytealg.IndexString"], recurses := true, named := ["steelyard/lex.words", "steelyard/lex.kinds", "steelyard/literal.digit", "internal/bytealg.MaxLen"], plainKeys := false, apart := false, laid := [("steelyard/literal.digit", laid_steelyard_literal_digit), ("steelyard/lex.kinds", laid_steelyard_lex_kinds), ("steelyard/lex.words", laid_steelyard_lex_words)] }
def NamesFirstSaid : Prop := namesFirstRow.holds Tryd.pinned (OpenSpec.ofChange namesFirstSpec)

/-- ITS FALSE NEIGHBOUR: 'it returns false'. Refute it at one input. -/
def namesFirstWrong : ChangeSpec := { name := "namesFirst", fn := fun _ => fun
  | [d1, d2] => { results := [.lit (.bool false)], args := [d1, d2] }
  | _ => none }
def NamesFirstWrongFalsely : Prop := namesFirstRow.holds Tryd.pinned (OpenSpec.ofChange namesFirstWrong)

/-- 'steelyardlaw17.NamesTwice': WHATEVER THE INPUT: true; the input reads as it did. -/
def namesTwiceSpec : ChangeSpec := { name := "namesTwice", fn := fun _ => fun
  | [d1, d2] => { results := [.lit (.bool true)], args := [d1, d2] }
  | _ => none }
def namesTwiceRow : OpenClaim := { program := "ytlfcdmibknmjeaadoor", sum := "ef9dde78b704a8c61210ad1f6768ac7e05b5c48145dfcaa986b3269629fc2a49", func := "steelyard/steelyardlaw17.NamesTwice", spec := "namesTwice", inPlace := ["internal/bytealg.IndexByteString", "internal/bytealg.IndexString"], recurses := true, named := ["steelyard/lex.words", "steelyard/lex.kinds", "steelyard/literal.digit", "internal/bytealg.MaxLen"], plainKeys := false, apart := false, laid := [("steelyard/literal.digit", laid_steelyard_literal_digit), ("steelyard/lex.kinds", laid_steelyard_lex_kinds), ("steelyard/lex.words", laid_steelyard_lex_words)] }
def NamesTwiceSaid : Prop := namesTwiceRow.holds Tryd.pinned (OpenSpec.ofChange namesTwiceSpec)

/-- ITS FALSE NEIGHBOUR: 'it returns false'. Refute it at one input. -/
def namesTwiceWrong : ChangeSpec := { name := "namesTwice", fn := fun _ => fun
  | [d1, d2] => { results := [.lit (.bool false)], args := [d1, d2] }
  | _ => none }
def NamesTwiceWrongFalsely : Prop := namesTwiceRow.holds Tryd.pinned (OpenSpec.ofChange namesTwiceWrong)

/- THE SECOND FORM. 'bulk': how many values and letters a reading holds, each counted each time it is reached (what is shared counts as often as it is met; a slice's spare places count too). A statement '..UptoSaid' is the law's where the arguments, and the package variables that the reading takes, are together of bulk at most 1048576: NARROWER than '..Said'. Prove '..Said' where nothing that the law and all that it calls make is longer than what came in: it says more and counts as full. Else prove '..UptoSaid'. A law counts once. -/
mutual
def uptoBulk {H : Type} : DataW H → Nat
  | .lit (.string bytes) => bytes.length + 1
  | .lit _ => 1
  | .nil => 1
  | .ptr d => uptoBulk d + 1
  | .slice elems spare => uptoBulkAll elems + uptoBulkAll spare + 1
  | .agg parts => uptoBulkAll parts + 1
  | .iface _ d => uptoBulk d + 1
  | .map entries => uptoBulkEntries entries + 1
  | .held _ => 1
def uptoBulkAll {H : Type} : List (DataW H) → Nat
  | [] => 0
  | d :: r => uptoBulk d + uptoBulkAll r
def uptoBulkEntries {H : Type} : List (Lit × DataW H) → Nat
  | [] => 0
  | x :: r => uptoBulkEntry x + uptoBulkEntries r
def uptoBulkEntry {H : Type} : Lit × DataW H → Nat
  | (.string bytes, d) => bytes.length + uptoBulk d + 1
  | (_, d) => uptoBulk d + 1
 end
def uptoSmall : (H : Type) → List (DataW H) → Bool := fun _ ds => decide (uptoBulkAll ds ≤ 1048576)
def OpenSpec.upto (s : _root_.Go.ChangeSpec) : _root_.Go.OpenSpec := { _root_.Go.OpenSpec.ofChange s with cond := some uptoSmall }

/-- 'steelyardlaw17.NamesTell', WHERE WHAT IT READS IS OF BULK AT MOST 1048576: true; the input reads as it did. -/
def namesTellUptoRow : OpenClaim := { program := "ytlfcdmibknmjeaadoor", sum := "ef9dde78b704a8c61210ad1f6768ac7e05b5c48145dfcaa986b3269629fc2a49", func := "steelyard/steelyardlaw17.NamesTell", spec := "namesTell", inPlace := ["internal/bytealg.IndexByteString", "internal/bytealg.IndexString"], recurses := true, named := ["steelyard/lex.words", "steelyard/lex.kinds", "steelyard/literal.digit", "internal/bytealg.MaxLen"], plainKeys := false, apart := false, laid := [("steelyard/literal.digit", laid_steelyard_literal_digit), ("steelyard/lex.kinds", laid_steelyard_lex_kinds), ("steelyard/lex.words", laid_steelyard_lex_words)], narrowed := true }
def NamesTellUptoSaid : Prop := namesTellUptoRow.holds Tryd.pinned (OpenSpec.upto namesTellSpec)

/-- 'steelyardlaw17.NamesAhead', WHERE WHAT IT READS IS OF BULK AT MOST 1048576: true; the input reads as it did. -/
def namesAheadUptoRow : OpenClaim := { program := "ytlfcdmibknmjeaadoor", sum := "ef9dde78b704a8c61210ad1f6768ac7e05b5c48145dfcaa986b3269629fc2a49", func := "steelyard/steelyardlaw17.NamesAhead", spec := "namesAhead", inPlace := ["internal/bytealg.IndexByteString", "internal/bytealg.IndexString"], recurses := true, named := ["steelyard/lex.words", "steelyard/lex.kinds", "steelyard/literal.digit", "internal/bytealg.MaxLen"], plainKeys := false, apart := false, laid := [("steelyard/literal.digit", laid_steelyard_literal_digit), ("steelyard/lex.kinds", laid_steelyard_lex_kinds), ("steelyard/lex.words", laid_steelyard_lex_words)], narrowed := true }
def NamesAheadUptoSaid : Prop := namesAheadUptoRow.holds Tryd.pinned (OpenSpec.upto namesAheadSpec)

/-- 'steelyardlaw17.NamesFirst', WHERE WHAT IT READS IS OF BULK AT MOST 1048576: true; the input reads as it did. -/
def namesFirstUptoRow : OpenClaim := { program := "ytlfcdmibknmjeaadoor", sum := "ef9dde78b704a8c61210ad1f6768ac7e05b5c48145dfcaa986b3269629fc2a49", func := "steelyard/steelyardlaw17.NamesFirst", spec := "namesFirst", inPlace := ["internal/bytealg.IndexByteString", "internal/bytealg.IndexString"], recurses := true, named := ["steelyard/lex.words", "steelyard/lex.kinds", "steelyard/literal.digit", "internal/bytealg.MaxLen"], plainKeys := false, apart := false, laid := [("steelyard/literal.digit", laid_steelyard_literal_digit), ("steelyard/lex.kinds", laid_steelyard_lex_kinds), ("steelyard/lex.words", laid_steelyard_lex_words)], narrowed := true }
def NamesFirstUptoSaid : Prop := namesFirstUptoRow.holds Tryd.pinned (OpenSpec.upto namesFirstSpec)

/-- 'steelyardlaw17.NamesTwice', WHERE WHAT IT READS IS OF BULK AT MOST 1048576: true; the input reads as it did. -/
def namesTwiceUptoRow : OpenClaim := { program := "ytlfcdmibknmjeaadoor", sum := "ef9dde78b704a8c61210ad1f6768ac7e05b5c48145dfcaa986b3269629fc2a49", func := "steelyard/steelyardlaw17.NamesTwice", spec := "namesTwice", inPlace := ["internal/bytealg.IndexByteString", "internal/bytealg.IndexString"], recurses := true, named := ["steelyard/lex.words", "steelyard/lex.kinds", "steelyard/literal.digit", "internal/bytealg.MaxLen"], plainKeys := false, apart := false, laid := [("steelyard/literal.digit", laid_steelyard_literal_digit), ("steelyard/lex.kinds", laid_steelyard_lex_kinds), ("steelyard/lex.words", laid_steelyard_lex_words)], narrowed := true }
def NamesTwiceUptoSaid : Prop := namesTwiceUptoRow.holds Tryd.pinned (OpenSpec.upto namesTwiceSpec)

end Rows
end Go.Proofs.YtlfcdmibknmjeaaDoor
