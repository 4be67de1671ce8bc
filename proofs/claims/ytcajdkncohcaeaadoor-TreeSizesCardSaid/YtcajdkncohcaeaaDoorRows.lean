/-
  NARROWER THAN 'FOR EVERY INPUT', by the rows' own cells (each row's printed sentence says how): LexTells: laid · LexStands: laid · LexNames: laid · LexKinds: laid · TreeTells: laid · TreeSizes: laid · TreeSame: laid · TreeLeaves: laid · DimTells: laid · DimGroup: laid · DimTexts: laid · DimOne: laid.
  DERIVED. THE GIVEN ROWS OF THIS SEAT. 12 by the template 'for every input the law returns true; each argument reads behind the call as it read before'; 0 by the template 'total and deterministic' (their statements: YtcajdkncohcaeaaDoorTotals.lean).
  GIVEN WITH THE SEED: the statements are not yours to turn. If you find one false, say at which input.
  Laid BY PROGRAM, IN A SANDBOX (cutbox-rows.mjs): the forced cells as the released guide's own fill.sh prints them over the translation e0e393a72dc2971b… (all of the seat's roots in one cut). By AI agents, Wed Nov 11 2026. No macro, syntax, notation, axiom, sorry.
-/
import Derived.Test.YtcajdkncohcaeaaDoorChecked
import GoSem.Claim
import GoSem.ClaimJoined
import GoSem.ClaimMapViews
import Derived.JoinedTies
import Derived.KernelRfl
namespace Go.Proofs.YtcajdkncohcaeaaDoor
/- THE CELL 'sum', in the pinned program and in every row, IS THE sha256 OF THE DUMP (.gsa) THAT YtcajdkncohcaeaaDoorProg.lean LOADS. Nothing in Lean hashes anything: it is a label: what it is worth is what the hold of that sum in a sandbox is worth. -/
noncomputable def Tryd.pinned : Pinned := { name := "ytcajdkncohcaeaadoor", sum := "e0e393a72dc2971be71703ae504b31e2175786b70231c88f41fdab6a4af6b0f6", checked := Tryd.checked }
namespace Rows
def none {H : Type} : Left H := { results := [], args := [] }

/- WHAT THE LISTED PACKAGE-LEVEL VARIABLES READ AS WHEN THE CALL BEGINS. Each datum BY PROGRAM (the guide's laid-datum.mjs) off the statement by which the dump's own 'gosem.cut.vars' lays the variable. In a bare row this is a premise. The card (YtcajdkncohcaeaaDoorCards.lean) ties it to the program's text. -/
def laid_steelyard_literal_digit {H : Type} : DataW H := .agg [.lit (.bool false), .lit (.bool false), .lit (.bool false), .lit (.bool false), .lit (.bool false), .lit (.bool false), .lit (.bool false), .lit (.bool false), .lit (.bool false), .lit (.bool false), .lit (.bool false), .lit (.bool false), .lit (.bool false), .lit (.bool false), .lit (.bool false), .lit (.bool false), .lit (.bool false), .lit (.bool false), .lit (.bool false), .lit (.bool false), .lit (.bool false), .lit (.bool false), .lit (.bool false), .lit (.bool false), .lit (.bool false), .lit (.bool false), .lit (.bool false), .lit (.bool false), .lit (.bool false), .lit (.bool false), .lit (.bool false), .lit (.bool false), .lit (.bool false), .lit (.bool false), .lit (.bool false), .lit (.bool false), .lit (.bool false), .lit (.bool false), .lit (.bool false), .lit (.bool false), .lit (.bool false), .lit (.bool false), .lit (.bool false), .lit (.bool false), .lit (.bool false), .lit (.bool false), .lit (.bool false), .lit (.bool false), .lit (.bool true), .lit (.bool true), .lit (.bool true), .lit (.bool true), .lit (.bool true), .lit (.bool true), .lit (.bool true), .lit (.bool true), .lit (.bool true), .lit (.bool true), .lit (.bool false), .lit (.bool false), .lit (.bool false), .lit (.bool false), .lit (.bool false), .lit (.bool false), .lit (.bool false), .lit (.bool false), .lit (.bool false), .lit (.bool false), .lit (.bool false), .lit (.bool false), .lit (.bool false), .lit (.bool false), .lit (.bool false), .lit (.bool false), .lit (.bool false), .lit (.bool false), .lit (.bool false), .lit (.bool false), .lit (.bool false), .lit (.bool false), .lit (.bool false), .lit (.bool false), .lit (.bool false), .lit (.bool false), .lit (.bool false), .lit (.bool false), .lit (.bool false), .lit (.bool false), .lit (.bool false), .lit (.bool false), .lit (.bool false), .lit (.bool false), .lit (.bool false), .lit (.bool false), .lit (.bool false), .lit (.bool false), .lit (.bool false), .lit (.bool false), .lit (.bool false), .lit (.bool false), .lit (.bool false), .lit (.bool false), .lit (.bool false), .lit (.bool false), .lit (.bool false), .lit (.bool false), .lit (.bool false), .lit (.bool false), .lit (.bool false), .lit (.bool false), .lit (.bool false), .lit (.bool false), .lit (.bool false), .lit (.bool false), .lit (.bool false), .lit (.bool false), .lit (.bool false), .lit (.bool false), .lit (.bool false), .lit (.bool false), .lit (.bool false), .lit (.bool false), .lit (.bool false), .lit (.bool false), .lit (.bool false), .lit (.bool false), .lit (.bool false), .lit (.bool false), .lit (.bool false), .lit (.bool false), .lit (.bool false), .lit (.bool false), .lit (.bool false), .lit (.bool false), .lit (.bool false), .lit (.bool false), .lit (.bool false), .lit (.bool false), .lit (.bool false), .lit (.bool false), .lit (.bool false), .lit (.bool false), .lit (.bool false), .lit (.bool false), .lit (.bool false), .lit (.bool false), .lit (.bool false), .lit (.bool false), .lit (.bool false), .lit (.bool false), .lit (.bool false), .lit (.bool false), .lit (.bool false), .lit (.bool false), .lit (.bool false), .lit (.bool false), .lit (.bool false), .lit (.bool false), .lit (.bool false), .lit (.bool false), .lit (.bool false), .lit (.bool false), .lit (.bool false), .lit (.bool false), .lit (.bool false), .lit (.bool false), .lit (.bool false), .lit (.bool false), .lit (.bool false), .lit (.bool false), .lit (.bool false), .lit (.bool false), .lit (.bool false), .lit (.bool false), .lit (.bool false), .lit (.bool false), .lit (.bool false), .lit (.bool false), .lit (.bool false), .lit (.bool false), .lit (.bool false), .lit (.bool false), .lit (.bool false), .lit (.bool false), .lit (.bool false), .lit (.bool false), .lit (.bool false), .lit (.bool false), .lit (.bool false), .lit (.bool false), .lit (.bool false), .lit (.bool false), .lit (.bool false), .lit (.bool false), .lit (.bool false), .lit (.bool false), .lit (.bool false), .lit (.bool false), .lit (.bool false), .lit (.bool false), .lit (.bool false), .lit (.bool false), .lit (.bool false), .lit (.bool false), .lit (.bool false), .lit (.bool false), .lit (.bool false), .lit (.bool false), .lit (.bool false), .lit (.bool false), .lit (.bool false), .lit (.bool false), .lit (.bool false), .lit (.bool false), .lit (.bool false), .lit (.bool false), .lit (.bool false), .lit (.bool false), .lit (.bool false), .lit (.bool false), .lit (.bool false), .lit (.bool false), .lit (.bool false), .lit (.bool false), .lit (.bool false), .lit (.bool false), .lit (.bool false), .lit (.bool false), .lit (.bool false), .lit (.bool false), .lit (.bool false), .lit (.bool false), .lit (.bool false), .lit (.bool false), .lit (.bool false), .lit (.bool false), .lit (.bool false), .lit (.bool false), .lit (.bool false), .lit (.bool false), .lit (.bool false), .lit (.bool false), .lit (.bool false), .lit (.bool false), .lit (.bool false), .lit (.bool false), .lit (.bool false), .lit (.bool false), .lit (.bool false), .lit (.bool false), .lit (.bool false), .lit (.bool false), .lit (.bool false), .lit (.bool false), .lit (.bool false), .lit (.bool false)]
def laid_steelyard_lex_kinds {H : Type} : DataW H := .agg [.lit (.int .i64 0), .lit (.int .i64 0), .lit (.int .i64 0), .lit (.int .i64 0), .lit (.int .i64 0), .lit (.int .i64 0), .lit (.int .i64 0), .lit (.int .i64 0), .lit (.int .i64 0), .lit (.int .i64 1), .lit (.int .i64 1), .lit (.int .i64 0), .lit (.int .i64 0), .lit (.int .i64 0), .lit (.int .i64 0), .lit (.int .i64 0), .lit (.int .i64 0), .lit (.int .i64 0), .lit (.int .i64 0), .lit (.int .i64 0), .lit (.int .i64 0), .lit (.int .i64 0), .lit (.int .i64 0), .lit (.int .i64 0), .lit (.int .i64 0), .lit (.int .i64 0), .lit (.int .i64 0), .lit (.int .i64 0), .lit (.int .i64 0), .lit (.int .i64 0), .lit (.int .i64 0), .lit (.int .i64 0), .lit (.int .i64 1), .lit (.int .i64 0), .lit (.int .i64 0), .lit (.int .i64 5), .lit (.int .i64 0), .lit (.int .i64 0), .lit (.int .i64 0), .lit (.int .i64 0), .lit (.int .i64 4), .lit (.int .i64 4), .lit (.int .i64 4), .lit (.int .i64 4), .lit (.int .i64 0), .lit (.int .i64 4), .lit (.int .i64 0), .lit (.int .i64 4), .lit (.int .i64 3), .lit (.int .i64 3), .lit (.int .i64 3), .lit (.int .i64 3), .lit (.int .i64 3), .lit (.int .i64 3), .lit (.int .i64 3), .lit (.int .i64 3), .lit (.int .i64 3), .lit (.int .i64 3), .lit (.int .i64 4), .lit (.int .i64 4), .lit (.int .i64 0), .lit (.int .i64 4), .lit (.int .i64 0), .lit (.int .i64 0), .lit (.int .i64 0), .lit (.int .i64 2), .lit (.int .i64 2), .lit (.int .i64 2), .lit (.int .i64 2), .lit (.int .i64 2), .lit (.int .i64 2), .lit (.int .i64 2), .lit (.int .i64 2), .lit (.int .i64 2), .lit (.int .i64 2), .lit (.int .i64 2), .lit (.int .i64 2), .lit (.int .i64 2), .lit (.int .i64 2), .lit (.int .i64 2), .lit (.int .i64 2), .lit (.int .i64 2), .lit (.int .i64 2), .lit (.int .i64 2), .lit (.int .i64 2), .lit (.int .i64 2), .lit (.int .i64 2), .lit (.int .i64 2), .lit (.int .i64 2), .lit (.int .i64 2), .lit (.int .i64 2), .lit (.int .i64 6), .lit (.int .i64 0), .lit (.int .i64 0), .lit (.int .i64 4), .lit (.int .i64 2), .lit (.int .i64 0), .lit (.int .i64 2), .lit (.int .i64 2), .lit (.int .i64 2), .lit (.int .i64 2), .lit (.int .i64 2), .lit (.int .i64 2), .lit (.int .i64 2), .lit (.int .i64 2), .lit (.int .i64 2), .lit (.int .i64 2), .lit (.int .i64 2), .lit (.int .i64 2), .lit (.int .i64 2), .lit (.int .i64 2), .lit (.int .i64 2), .lit (.int .i64 2), .lit (.int .i64 2), .lit (.int .i64 2), .lit (.int .i64 2), .lit (.int .i64 2), .lit (.int .i64 2), .lit (.int .i64 2), .lit (.int .i64 2), .lit (.int .i64 2), .lit (.int .i64 2), .lit (.int .i64 2), .lit (.int .i64 0), .lit (.int .i64 0), .lit (.int .i64 0), .lit (.int .i64 0), .lit (.int .i64 0)]
def laid_steelyard_lex_words {H : Type} : DataW H := .agg [.lit (.string [117, 110, 105, 116]), .lit (.string [115, 111, 117, 114, 99, 101]), .lit (.string [99, 111, 118]), .lit (.string [108, 101, 116]), .lit (.string [111, 117, 116, 112, 117, 116]), .lit (.string [105, 110])]
def laid_math_bits_deBruijn32tab {H : Type} : DataW H := .agg [.lit (.int .u8 0), .lit (.int .u8 1), .lit (.int .u8 28), .lit (.int .u8 2), .lit (.int .u8 29), .lit (.int .u8 14), .lit (.int .u8 24), .lit (.int .u8 3), .lit (.int .u8 30), .lit (.int .u8 22), .lit (.int .u8 20), .lit (.int .u8 15), .lit (.int .u8 25), .lit (.int .u8 17), .lit (.int .u8 4), .lit (.int .u8 8), .lit (.int .u8 31), .lit (.int .u8 27), .lit (.int .u8 13), .lit (.int .u8 23), .lit (.int .u8 21), .lit (.int .u8 19), .lit (.int .u8 16), .lit (.int .u8 7), .lit (.int .u8 26), .lit (.int .u8 12), .lit (.int .u8 18), .lit (.int .u8 6), .lit (.int .u8 11), .lit (.int .u8 5), .lit (.int .u8 10), .lit (.int .u8 9)]
def laid_math_bits_deBruijn64tab {H : Type} : DataW H := .agg [.lit (.int .u8 0), .lit (.int .u8 1), .lit (.int .u8 56), .lit (.int .u8 2), .lit (.int .u8 57), .lit (.int .u8 49), .lit (.int .u8 28), .lit (.int .u8 3), .lit (.int .u8 61), .lit (.int .u8 58), .lit (.int .u8 42), .lit (.int .u8 50), .lit (.int .u8 38), .lit (.int .u8 29), .lit (.int .u8 17), .lit (.int .u8 4), .lit (.int .u8 62), .lit (.int .u8 47), .lit (.int .u8 59), .lit (.int .u8 36), .lit (.int .u8 45), .lit (.int .u8 43), .lit (.int .u8 51), .lit (.int .u8 22), .lit (.int .u8 53), .lit (.int .u8 39), .lit (.int .u8 33), .lit (.int .u8 30), .lit (.int .u8 24), .lit (.int .u8 18), .lit (.int .u8 12), .lit (.int .u8 5), .lit (.int .u8 63), .lit (.int .u8 55), .lit (.int .u8 48), .lit (.int .u8 27), .lit (.int .u8 60), .lit (.int .u8 41), .lit (.int .u8 37), .lit (.int .u8 16), .lit (.int .u8 46), .lit (.int .u8 35), .lit (.int .u8 44), .lit (.int .u8 21), .lit (.int .u8 52), .lit (.int .u8 32), .lit (.int .u8 23), .lit (.int .u8 11), .lit (.int .u8 54), .lit (.int .u8 26), .lit (.int .u8 40), .lit (.int .u8 15), .lit (.int .u8 34), .lit (.int .u8 20), .lit (.int .u8 31), .lit (.int .u8 10), .lit (.int .u8 25), .lit (.int .u8 14), .lit (.int .u8 19), .lit (.int .u8 9), .lit (.int .u8 13), .lit (.int .u8 8), .lit (.int .u8 7), .lit (.int .u8 6)]
def laid_internal_strconv_uint64pow10 {H : Type} : DataW H := .agg [.lit (.int .u64 1), .lit (.int .u64 10), .lit (.int .u64 100), .lit (.int .u64 1000), .lit (.int .u64 10000), .lit (.int .u64 100000), .lit (.int .u64 1000000), .lit (.int .u64 10000000), .lit (.int .u64 100000000), .lit (.int .u64 1000000000), .lit (.int .u64 10000000000), .lit (.int .u64 100000000000), .lit (.int .u64 1000000000000), .lit (.int .u64 10000000000000), .lit (.int .u64 100000000000000), .lit (.int .u64 1000000000000000), .lit (.int .u64 10000000000000000), .lit (.int .u64 100000000000000000), .lit (.int .u64 1000000000000000000), .lit (.int .u64 10000000000000000000)]
def laid_steelyard_dim_names {H : Type} : DataW H := .agg [.lit (.string [109]), .lit (.string [107, 103]), .lit (.string [115]), .lit (.string [65]), .lit (.string [75]), .lit (.string [109, 111, 108]), .lit (.string [99, 100])]

/-- 'steelyardlaw13.LexTells': WHATEVER THE INPUT: true; the input reads as it did. -/
def lexTellsSpec : ChangeSpec := { name := "lexTells", fn := fun _ => fun
  | [d1, d2] => { results := [.lit (.bool true)], args := [d1, d2] }
  | _ => none }
def lexTellsRow : OpenClaim := { program := "ytcajdkncohcaeaadoor", sum := "e0e393a72dc2971be71703ae504b31e2175786b70231c88f41fdab6a4af6b0f6", func := "steelyard/steelyardlaw13.LexTells", spec := "lexTells", inPlace := ["internal/bytealg.IndexByteString", "internal/bytealg.IndexString"], named := ["steelyard/lex.kinds", "steelyard/literal.digit", "internal/bytealg.MaxLen", "steelyard/lex.words"], apart := false, laid := [("steelyard/literal.digit", laid_steelyard_literal_digit), ("steelyard/lex.kinds", laid_steelyard_lex_kinds), ("steelyard/lex.words", laid_steelyard_lex_words)] }
def LexTellsSaid : Prop := lexTellsRow.holds Tryd.pinned (OpenSpec.ofChange lexTellsSpec)

/-- ITS FALSE NEIGHBOUR: 'it returns false'. Refute it at one input. -/
def lexTellsWrong : ChangeSpec := { name := "lexTells", fn := fun _ => fun
  | [d1, d2] => { results := [.lit (.bool false)], args := [d1, d2] }
  | _ => none }
def LexTellsWrongFalsely : Prop := lexTellsRow.holds Tryd.pinned (OpenSpec.ofChange lexTellsWrong)

/-- 'steelyardlaw13.LexStands': WHATEVER THE INPUT: true; the input reads as it did. -/
def lexStandsSpec : ChangeSpec := { name := "lexStands", fn := fun _ => fun
  | [d1, d2] => { results := [.lit (.bool true)], args := [d1, d2] }
  | _ => none }
def lexStandsRow : OpenClaim := { program := "ytcajdkncohcaeaadoor", sum := "e0e393a72dc2971be71703ae504b31e2175786b70231c88f41fdab6a4af6b0f6", func := "steelyard/steelyardlaw13.LexStands", spec := "lexStands", inPlace := ["internal/bytealg.IndexByteString", "internal/bytealg.IndexString"], named := ["steelyard/lex.kinds", "steelyard/literal.digit", "internal/bytealg.MaxLen", "steelyard/lex.words"], apart := false, laid := [("steelyard/literal.digit", laid_steelyard_literal_digit), ("steelyard/lex.kinds", laid_steelyard_lex_kinds), ("steelyard/lex.words", laid_steelyard_lex_words)] }
def LexStandsSaid : Prop := lexStandsRow.holds Tryd.pinned (OpenSpec.ofChange lexStandsSpec)

/-- ITS FALSE NEIGHBOUR: 'it returns false'. Refute it at one input. -/
def lexStandsWrong : ChangeSpec := { name := "lexStands", fn := fun _ => fun
  | [d1, d2] => { results := [.lit (.bool false)], args := [d1, d2] }
  | _ => none }
def LexStandsWrongFalsely : Prop := lexStandsRow.holds Tryd.pinned (OpenSpec.ofChange lexStandsWrong)

/-- 'steelyardlaw13.LexNames': WHATEVER THE INPUT: true; the input reads as it did. -/
def lexNamesSpec : ChangeSpec := { name := "lexNames", fn := fun _ => fun
  | [d] => { results := [.lit (.bool true)], args := [d] }
  | _ => none }
def lexNamesRow : OpenClaim := { program := "ytcajdkncohcaeaadoor", sum := "e0e393a72dc2971be71703ae504b31e2175786b70231c88f41fdab6a4af6b0f6", func := "steelyard/steelyardlaw13.LexNames", spec := "lexNames", inPlace := ["internal/bytealg.IndexByteString", "internal/bytealg.IndexString"], named := ["steelyard/lex.kinds", "steelyard/literal.digit", "internal/bytealg.MaxLen", "steelyard/lex.words"], apart := false, laid := [("steelyard/literal.digit", laid_steelyard_literal_digit), ("steelyard/lex.kinds", laid_steelyard_lex_kinds), ("steelyard/lex.words", laid_steelyard_lex_words)] }
def LexNamesSaid : Prop := lexNamesRow.holds Tryd.pinned (OpenSpec.ofChange lexNamesSpec)

/-- ITS FALSE NEIGHBOUR: 'it returns false'. Refute it at one input. -/
def lexNamesWrong : ChangeSpec := { name := "lexNames", fn := fun _ => fun
  | [d] => { results := [.lit (.bool false)], args := [d] }
  | _ => none }
def LexNamesWrongFalsely : Prop := lexNamesRow.holds Tryd.pinned (OpenSpec.ofChange lexNamesWrong)

/-- 'steelyardlaw13.LexKinds': WHATEVER THE INPUT: true; the input reads as it did. -/
def lexKindsSpec : ChangeSpec := { name := "lexKinds", fn := fun _ => fun
  | [d1, d2] => { results := [.lit (.bool true)], args := [d1, d2] }
  | _ => none }
def lexKindsRow : OpenClaim := { program := "ytcajdkncohcaeaadoor", sum := "e0e393a72dc2971be71703ae504b31e2175786b70231c88f41fdab6a4af6b0f6", func := "steelyard/steelyardlaw13.LexKinds", spec := "lexKinds", inPlace := ["internal/bytealg.IndexByteString", "internal/bytealg.IndexString"], named := ["steelyard/lex.kinds", "steelyard/literal.digit", "internal/bytealg.MaxLen", "steelyard/lex.words"], apart := false, laid := [("steelyard/literal.digit", laid_steelyard_literal_digit), ("steelyard/lex.kinds", laid_steelyard_lex_kinds), ("steelyard/lex.words", laid_steelyard_lex_words)] }
def LexKindsSaid : Prop := lexKindsRow.holds Tryd.pinned (OpenSpec.ofChange lexKindsSpec)

/-- ITS FALSE NEIGHBOUR: 'it returns false'. Refute it at one input. -/
def lexKindsWrong : ChangeSpec := { name := "lexKinds", fn := fun _ => fun
  | [d1, d2] => { results := [.lit (.bool false)], args := [d1, d2] }
  | _ => none }
def LexKindsWrongFalsely : Prop := lexKindsRow.holds Tryd.pinned (OpenSpec.ofChange lexKindsWrong)

/-- 'steelyardlaw14.TreeTells': WHATEVER THE INPUT: true; the input reads as it did. -/
def treeTellsSpec : ChangeSpec := { name := "treeTells", fn := fun _ => fun
  | [d1, d2, d3] => { results := [.lit (.bool true)], args := [d1, d2, d3] }
  | _ => none }
def treeTellsRow : OpenClaim := { program := "ytcajdkncohcaeaadoor", sum := "e0e393a72dc2971be71703ae504b31e2175786b70231c88f41fdab6a4af6b0f6", func := "steelyard/steelyardlaw14.TreeTells", spec := "treeTells", inPlace := ["internal/bytealg.IndexByteString", "internal/bytealg.IndexString"], named := ["steelyard/literal.digit", "internal/bytealg.MaxLen", "steelyard/lex.words", "steelyard/lex.kinds"], apart := false, laid := [("steelyard/literal.digit", laid_steelyard_literal_digit), ("steelyard/lex.kinds", laid_steelyard_lex_kinds), ("steelyard/lex.words", laid_steelyard_lex_words)] }
def TreeTellsSaid : Prop := treeTellsRow.holds Tryd.pinned (OpenSpec.ofChange treeTellsSpec)

/-- ITS FALSE NEIGHBOUR: 'it returns false'. Refute it at one input. -/
def treeTellsWrong : ChangeSpec := { name := "treeTells", fn := fun _ => fun
  | [d1, d2, d3] => { results := [.lit (.bool false)], args := [d1, d2, d3] }
  | _ => none }
def TreeTellsWrongFalsely : Prop := treeTellsRow.holds Tryd.pinned (OpenSpec.ofChange treeTellsWrong)

/-- 'steelyardlaw14.TreeSizes': WHATEVER THE INPUT: true; the input reads as it did. -/
def treeSizesSpec : ChangeSpec := { name := "treeSizes", fn := fun _ => fun
  | [d1, d2, d3] => { results := [.lit (.bool true)], args := [d1, d2, d3] }
  | _ => none }
def treeSizesRow : OpenClaim := { program := "ytcajdkncohcaeaadoor", sum := "e0e393a72dc2971be71703ae504b31e2175786b70231c88f41fdab6a4af6b0f6", func := "steelyard/steelyardlaw14.TreeSizes", spec := "treeSizes", inPlace := ["internal/bytealg.IndexByteString", "internal/bytealg.IndexString"], named := ["steelyard/literal.digit", "internal/bytealg.MaxLen", "steelyard/lex.words", "steelyard/lex.kinds"], apart := false, laid := [("steelyard/literal.digit", laid_steelyard_literal_digit), ("steelyard/lex.kinds", laid_steelyard_lex_kinds), ("steelyard/lex.words", laid_steelyard_lex_words)] }
def TreeSizesSaid : Prop := treeSizesRow.holds Tryd.pinned (OpenSpec.ofChange treeSizesSpec)

/-- ITS FALSE NEIGHBOUR: 'it returns false'. Refute it at one input. -/
def treeSizesWrong : ChangeSpec := { name := "treeSizes", fn := fun _ => fun
  | [d1, d2, d3] => { results := [.lit (.bool false)], args := [d1, d2, d3] }
  | _ => none }
def TreeSizesWrongFalsely : Prop := treeSizesRow.holds Tryd.pinned (OpenSpec.ofChange treeSizesWrong)

/-- 'steelyardlaw14.TreeSame': WHATEVER THE INPUT: true; the input reads as it did. -/
def treeSameSpec : ChangeSpec := { name := "treeSame", fn := fun _ => fun
  | [d1, d2, d3] => { results := [.lit (.bool true)], args := [d1, d2, d3] }
  | _ => none }
def treeSameRow : OpenClaim := { program := "ytcajdkncohcaeaadoor", sum := "e0e393a72dc2971be71703ae504b31e2175786b70231c88f41fdab6a4af6b0f6", func := "steelyard/steelyardlaw14.TreeSame", spec := "treeSame", inPlace := ["internal/bytealg.IndexByteString", "internal/bytealg.IndexString"], named := ["steelyard/literal.digit", "internal/bytealg.MaxLen", "steelyard/lex.words", "steelyard/lex.kinds"], apart := false, laid := [("steelyard/literal.digit", laid_steelyard_literal_digit), ("steelyard/lex.kinds", laid_steelyard_lex_kinds), ("steelyard/lex.words", laid_steelyard_lex_words)] }
def TreeSameSaid : Prop := treeSameRow.holds Tryd.pinned (OpenSpec.ofChange treeSameSpec)

/-- ITS FALSE NEIGHBOUR: 'it returns false'. Refute it at one input. -/
def treeSameWrong : ChangeSpec := { name := "treeSame", fn := fun _ => fun
  | [d1, d2, d3] => { results := [.lit (.bool false)], args := [d1, d2, d3] }
  | _ => none }
def TreeSameWrongFalsely : Prop := treeSameRow.holds Tryd.pinned (OpenSpec.ofChange treeSameWrong)

/-- 'steelyardlaw14.TreeLeaves': WHATEVER THE INPUT: true; the input reads as it did. -/
def treeLeavesSpec : ChangeSpec := { name := "treeLeaves", fn := fun _ => fun
  | [d] => { results := [.lit (.bool true)], args := [d] }
  | _ => none }
def treeLeavesRow : OpenClaim := { program := "ytcajdkncohcaeaadoor", sum := "e0e393a72dc2971be71703ae504b31e2175786b70231c88f41fdab6a4af6b0f6", func := "steelyard/steelyardlaw14.TreeLeaves", spec := "treeLeaves", inPlace := ["internal/bytealg.IndexByteString", "internal/bytealg.IndexString"], named := ["steelyard/literal.digit", "internal/bytealg.MaxLen", "steelyard/lex.words", "steelyard/lex.kinds"], apart := false, laid := [("steelyard/literal.digit", laid_steelyard_literal_digit), ("steelyard/lex.kinds", laid_steelyard_lex_kinds), ("steelyard/lex.words", laid_steelyard_lex_words)] }
def TreeLeavesSaid : Prop := treeLeavesRow.holds Tryd.pinned (OpenSpec.ofChange treeLeavesSpec)

/-- ITS FALSE NEIGHBOUR: 'it returns false'. Refute it at one input. -/
def treeLeavesWrong : ChangeSpec := { name := "treeLeaves", fn := fun _ => fun
  | [d] => { results := [.lit (.bool false)], args := [d] }
  | _ => none }
def TreeLeavesWrongFalsely : Prop := treeLeavesRow.holds Tryd.pinned (OpenSpec.ofChange treeLeavesWrong)

/-- 'steelyardlaw11.DimTells': WHATEVER THE INPUT: true; the input reads as it did. -/
def dimTellsSpec : ChangeSpec := { name := "dimTells", fn := fun _ => fun
  | [d1, d2, d3] => { results := [.lit (.bool true)], args := [d1, d2, d3] }
  | _ => none }
def dimTellsRow : OpenClaim := { program := "ytcajdkncohcaeaadoor", sum := "e0e393a72dc2971be71703ae504b31e2175786b70231c88f41fdab6a4af6b0f6", func := "steelyard/steelyardlaw11.DimTells", spec := "dimTells", inPlace := ["internal/abi.NoEscape", "internal/bytealg.MakeNoZero"], named := ["steelyard/dim.names", "internal/strconv.uint64pow10", "math/bits.deBruijn32tab", "math/bits.deBruijn64tab"], apart := false, laid := [("math/bits.deBruijn32tab", laid_math_bits_deBruijn32tab), ("math/bits.deBruijn64tab", laid_math_bits_deBruijn64tab), ("internal/strconv.uint64pow10", laid_internal_strconv_uint64pow10), ("steelyard/dim.names", laid_steelyard_dim_names)] }
def DimTellsSaid : Prop := dimTellsRow.holds Tryd.pinned (OpenSpec.ofChange dimTellsSpec)

/-- ITS FALSE NEIGHBOUR: 'it returns false'. Refute it at one input. -/
def dimTellsWrong : ChangeSpec := { name := "dimTells", fn := fun _ => fun
  | [d1, d2, d3] => { results := [.lit (.bool false)], args := [d1, d2, d3] }
  | _ => none }
def DimTellsWrongFalsely : Prop := dimTellsRow.holds Tryd.pinned (OpenSpec.ofChange dimTellsWrong)

/-- 'steelyardlaw11.DimGroup': WHATEVER THE INPUT: true; the input reads as it did. -/
def dimGroupSpec : ChangeSpec := { name := "dimGroup", fn := fun _ => fun
  | [d1, d2, d3] => { results := [.lit (.bool true)], args := [d1, d2, d3] }
  | _ => none }
def dimGroupRow : OpenClaim := { program := "ytcajdkncohcaeaadoor", sum := "e0e393a72dc2971be71703ae504b31e2175786b70231c88f41fdab6a4af6b0f6", func := "steelyard/steelyardlaw11.DimGroup", spec := "dimGroup", inPlace := ["internal/abi.NoEscape", "internal/bytealg.MakeNoZero"], named := ["steelyard/dim.names", "internal/strconv.uint64pow10", "math/bits.deBruijn32tab", "math/bits.deBruijn64tab"], apart := false, laid := [("math/bits.deBruijn32tab", laid_math_bits_deBruijn32tab), ("math/bits.deBruijn64tab", laid_math_bits_deBruijn64tab), ("internal/strconv.uint64pow10", laid_internal_strconv_uint64pow10), ("steelyard/dim.names", laid_steelyard_dim_names)] }
def DimGroupSaid : Prop := dimGroupRow.holds Tryd.pinned (OpenSpec.ofChange dimGroupSpec)

/-- ITS FALSE NEIGHBOUR: 'it returns false'. Refute it at one input. -/
def dimGroupWrong : ChangeSpec := { name := "dimGroup", fn := fun _ => fun
  | [d1, d2, d3] => { results := [.lit (.bool false)], args := [d1, d2, d3] }
  | _ => none }
def DimGroupWrongFalsely : Prop := dimGroupRow.holds Tryd.pinned (OpenSpec.ofChange dimGroupWrong)

/-- 'steelyardlaw11.DimTexts': WHATEVER THE INPUT: true; the input reads as it did. -/
def dimTextsSpec : ChangeSpec := { name := "dimTexts", fn := fun _ => fun
  | [d1, d2] => { results := [.lit (.bool true)], args := [d1, d2] }
  | _ => none }
def dimTextsRow : OpenClaim := { program := "ytcajdkncohcaeaadoor", sum := "e0e393a72dc2971be71703ae504b31e2175786b70231c88f41fdab6a4af6b0f6", func := "steelyard/steelyardlaw11.DimTexts", spec := "dimTexts", inPlace := ["internal/abi.NoEscape", "internal/bytealg.MakeNoZero"], named := ["steelyard/dim.names", "internal/strconv.uint64pow10", "math/bits.deBruijn32tab", "math/bits.deBruijn64tab"], apart := false, laid := [("math/bits.deBruijn32tab", laid_math_bits_deBruijn32tab), ("math/bits.deBruijn64tab", laid_math_bits_deBruijn64tab), ("internal/strconv.uint64pow10", laid_internal_strconv_uint64pow10), ("steelyard/dim.names", laid_steelyard_dim_names)] }
def DimTextsSaid : Prop := dimTextsRow.holds Tryd.pinned (OpenSpec.ofChange dimTextsSpec)

/-- ITS FALSE NEIGHBOUR: 'it returns false'. Refute it at one input. -/
def dimTextsWrong : ChangeSpec := { name := "dimTexts", fn := fun _ => fun
  | [d1, d2] => { results := [.lit (.bool false)], args := [d1, d2] }
  | _ => none }
def DimTextsWrongFalsely : Prop := dimTextsRow.holds Tryd.pinned (OpenSpec.ofChange dimTextsWrong)

/-- 'steelyardlaw11.DimOne': WHATEVER THE INPUT: true; the input reads as it did. -/
def dimOneSpec : ChangeSpec := { name := "dimOne", fn := fun _ => fun
  | [d] => { results := [.lit (.bool true)], args := [d] }
  | _ => none }
def dimOneRow : OpenClaim := { program := "ytcajdkncohcaeaadoor", sum := "e0e393a72dc2971be71703ae504b31e2175786b70231c88f41fdab6a4af6b0f6", func := "steelyard/steelyardlaw11.DimOne", spec := "dimOne", inPlace := ["internal/abi.NoEscape", "internal/bytealg.MakeNoZero"], named := ["steelyard/dim.names", "internal/strconv.uint64pow10", "math/bits.deBruijn32tab", "math/bits.deBruijn64tab"], apart := false, laid := [("math/bits.deBruijn32tab", laid_math_bits_deBruijn32tab), ("math/bits.deBruijn64tab", laid_math_bits_deBruijn64tab), ("internal/strconv.uint64pow10", laid_internal_strconv_uint64pow10), ("steelyard/dim.names", laid_steelyard_dim_names)] }
def DimOneSaid : Prop := dimOneRow.holds Tryd.pinned (OpenSpec.ofChange dimOneSpec)

/-- ITS FALSE NEIGHBOUR: 'it returns false'. Refute it at one input. -/
def dimOneWrong : ChangeSpec := { name := "dimOne", fn := fun _ => fun
  | [d] => { results := [.lit (.bool false)], args := [d] }
  | _ => none }
def DimOneWrongFalsely : Prop := dimOneRow.holds Tryd.pinned (OpenSpec.ofChange dimOneWrong)

/- THE SECOND FORM. 'bulk': how many values and letters a reading holds, each counted each time it is reached (what is shared counts as often as it is met; a slice's spare places count too). A statement '..UptoSaid' is the law's where the arguments, and the package variables that the reading takes, are together of bulk at most 1048576: NARROWER than '..Said'. Prove '..Said' where nothing that the law and all that it calls make is longer than what came in: it says more and counts as full. Else prove '..UptoSaid'. A law counts once. -/
mutual
def uptoBulk {H : Type} : DataW H → Nat
  | .lit (.string bytes) => bytes.length + 1
  | .lit _ => 1
  | .nil => 1
  | .ptr d => uptoBulk d + 1
  | .slice elems spare => uptoBulkAll elems + uptoBulkAll spare + 1
  | .agg parts => uptoBulkAll parts + 1
  | .iface _ d => uptoBulk d + 1
  | .map entries => uptoBulkEntries entries + 1
  | .held _ => 1
def uptoBulkAll {H : Type} : List (DataW H) → Nat
  | [] => 0
  | d :: r => uptoBulk d + uptoBulkAll r
def uptoBulkEntries {H : Type} : List (Lit × DataW H) → Nat
  | [] => 0
  | x :: r => uptoBulkEntry x + uptoBulkEntries r
def uptoBulkEntry {H : Type} : Lit × DataW H → Nat
  | (.string bytes, d) => bytes.length + uptoBulk d + 1
  | (_, d) => uptoBulk d + 1
 end
def uptoSmall : (H : Type) → List (DataW H) → Bool := fun _ ds => decide (uptoBulkAll ds ≤ 1048576)
def OpenSpec.upto (s : _root_.Go.ChangeSpec) : _root_.Go.OpenSpec := { _root_.Go.OpenSpec.ofChange s with cond := some uptoSmall }

/-- 'steelyardlaw13.LexTells', WHERE WHAT IT READS IS OF BULK AT MOST 1048576: true; the input reads as it did. -/
def lexTellsUptoRow : OpenClaim := { program := "ytcajdkncohcaeaadoor", sum := "e0e393a72dc2971be71703ae504b31e2175786b70231c88f41fdab6a4af6b0f6", func := "steelyard/steelyardlaw13.LexTells", spec := "lexTells", inPlace := ["internal/bytealg.IndexByteString", "internal/bytealg.IndexString"], named := ["steelyard/lex.kinds", "steelyard/literal.digit", "internal/bytealg.MaxLen", "steelyard/lex.words"], apart := false, laid := [("steelyard/literal.digit", laid_steelyard_literal_digit), ("steelyard/lex.kinds", laid_steelyard_lex_kinds), ("steelyard/lex.words", laid_steelyard_lex_words)], narrowed := true }
def LexTellsUptoSaid : Prop := lexTellsUptoRow.holds Tryd.pinned (OpenSpec.upto lexTellsSpec)

/-- 'steelyardlaw13.LexStands', WHERE WHAT IT READS IS OF BULK AT MOST 1048576: true; the input reads as it did. -/
def lexStandsUptoRow : OpenClaim := { program := "ytcajdkncohcaeaadoor", sum := "e0e393a72dc2971be71703ae504b31e2175786b70231c88f41fdab6a4af6b0f6", func := "steelyard/steelyardlaw13.LexStands", spec := "lexStands", inPlace := ["internal/bytealg.IndexByteString", "internal/bytealg.IndexString"], named := ["steelyard/lex.kinds", "steelyard/literal.digit", "internal/bytealg.MaxLen", "steelyard/lex.words"], apart := false, laid := [("steelyard/literal.digit", laid_steelyard_literal_digit), ("steelyard/lex.kinds", laid_steelyard_lex_kinds), ("steelyard/lex.words", laid_steelyard_lex_words)], narrowed := true }
def LexStandsUptoSaid : Prop := lexStandsUptoRow.holds Tryd.pinned (OpenSpec.upto lexStandsSpec)

/-- 'steelyardlaw13.LexNames', WHERE WHAT IT READS IS OF BULK AT MOST 1048576: true; the input reads as it did. -/
def lexNamesUptoRow : OpenClaim := { program := "ytcajdkncohcaeaadoor", sum := "e0e393a72dc2971be71703ae504b31e2175786b70231c88f41fdab6a4af6b0f6", func := "steelyard/steelyardlaw13.LexNames", spec := "lexNames", inPlace := ["internal/bytealg.IndexByteString", "internal/bytealg.IndexString"], named := ["steelyard/lex.kinds", "steelyard/literal.digit", "internal/bytealg.MaxLen", "steelyard/lex.words"], apart := false, laid := [("steelyard/literal.digit", laid_steelyard_literal_digit), ("steelyard/lex.kinds", laid_steelyard_lex_kinds), ("steelyard/lex.words", laid_steelyard_lex_words)], narrowed := true }
def LexNamesUptoSaid : Prop := lexNamesUptoRow.holds Tryd.pinned (OpenSpec.upto lexNamesSpec)

/-- 'steelyardlaw13.LexKinds', WHERE WHAT IT READS IS OF BULK AT MOST 1048576: true; the input reads as it did. -/
def lexKindsUptoRow : OpenClaim := { program := "ytcajdkncohcaeaadoor", sum := "e0e393a72dc2971be71703ae504b31e2175786b70231c88f41fdab6a4af6b0f6", func := "steelyard/steelyardlaw13.LexKinds", spec := "lexKinds", inPlace := ["internal/bytealg.IndexByteString", "internal/bytealg.IndexString"], named := ["steelyard/lex.kinds", "steelyard/literal.digit", "internal/bytealg.MaxLen", "steelyard/lex.words"], apart := false, laid := [("steelyard/literal.digit", laid_steelyard_literal_digit), ("steelyard/lex.kinds", laid_steelyard_lex_kinds), ("steelyard/lex.words", laid_steelyard_lex_words)], narrowed := true }
def LexKindsUptoSaid : Prop := lexKindsUptoRow.holds Tryd.pinned (OpenSpec.upto lexKindsSpec)

/-- 'steelyardlaw14.TreeTells', WHERE WHAT IT READS IS OF BULK AT MOST 1048576: true; the input reads as it did. -/
def treeTellsUptoRow : OpenClaim := { program := "ytcajdkncohcaeaadoor", sum := "e0e393a72dc2971be71703ae504b31e2175786b70231c88f41fdab6a4af6b0f6", func := "steelyard/steelyardlaw14.TreeTells", spec := "treeTells", inPlace := ["internal/bytealg.IndexByteString", "internal/bytealg.IndexString"], named := ["steelyard/literal.digit", "internal/bytealg.MaxLen", "steelyard/lex.words", "steelyard/lex.kinds"], apart := false, laid := [("steelyard/literal.digit", laid_steelyard_literal_digit), ("steelyard/lex.kinds", laid_steelyard_lex_kinds), ("steelyard/lex.words", laid_steelyard_lex_words)], narrowed := true }
def TreeTellsUptoSaid : Prop := treeTellsUptoRow.holds Tryd.pinned (OpenSpec.upto treeTellsSpec)

/-- 'steelyardlaw14.TreeSizes', WHERE WHAT IT READS IS OF BULK AT MOST 1048576: true; the input reads as it did. -/
def treeSizesUptoRow : OpenClaim := { program := "ytcajdkncohcaeaadoor", sum := "e0e393a72dc2971be71703ae504b31e2175786b70231c88f41fdab6a4af6b0f6", func := "steelyard/steelyardlaw14.TreeSizes", spec := "treeSizes", inPlace := ["internal/bytealg.IndexByteString", "internal/bytealg.IndexString"], named := ["steelyard/literal.digit", "internal/bytealg.MaxLen", "steelyard/lex.words", "steelyard/lex.kinds"], apart := false, laid := [("steelyard/literal.digit", laid_steelyard_literal_digit), ("steelyard/lex.kinds", laid_steelyard_lex_kinds), ("steelyard/lex.words", laid_steelyard_lex_words)], narrowed := true }
def TreeSizesUptoSaid : Prop := treeSizesUptoRow.holds Tryd.pinned (OpenSpec.upto treeSizesSpec)

/-- 'steelyardlaw14.TreeSame', WHERE WHAT IT READS IS OF BULK AT MOST 1048576: true; the input reads as it did. -/
def treeSameUptoRow : OpenClaim := { program := "ytcajdkncohcaeaadoor", sum := "e0e393a72dc2971be71703ae504b31e2175786b70231c88f41fdab6a4af6b0f6", func := "steelyard/steelyardlaw14.TreeSame", spec := "treeSame", inPlace := ["internal/bytealg.IndexByteString", "internal/bytealg.IndexString"], named := ["steelyard/literal.digit", "internal/bytealg.MaxLen", "steelyard/lex.words", "steelyard/lex.kinds"], apart := false, laid := [("steelyard/literal.digit", laid_steelyard_literal_digit), ("steelyard/lex.kinds", laid_steelyard_lex_kinds), ("steelyard/lex.words", laid_steelyard_lex_words)], narrowed := true }
def TreeSameUptoSaid : Prop := treeSameUptoRow.holds Tryd.pinned (OpenSpec.upto treeSameSpec)

/-- 'steelyardlaw14.TreeLeaves', WHERE WHAT IT READS IS OF BULK AT MOST 1048576: true; the input reads as it did. -/
def treeLeavesUptoRow : OpenClaim := { program := "ytcajdkncohcaeaadoor", sum := "e0e393a72dc2971be71703ae504b31e2175786b70231c88f41fdab6a4af6b0f6", func := "steelyard/steelyardlaw14.TreeLeaves", spec := "treeLeaves", inPlace := ["internal/bytealg.IndexByteString", "internal/bytealg.IndexString"], named := ["steelyard/literal.digit", "internal/bytealg.MaxLen", "steelyard/lex.words", "steelyard/lex.kinds"], apart := false, laid := [("steelyard/literal.digit", laid_steelyard_literal_digit), ("steelyard/lex.kinds", laid_steelyard_lex_kinds), ("steelyard/lex.words", laid_steelyard_lex_words)], narrowed := true }
def TreeLeavesUptoSaid : Prop := treeLeavesUptoRow.holds Tryd.pinned (OpenSpec.upto treeLeavesSpec)

/-- 'steelyardlaw11.DimTells', WHERE WHAT IT READS IS OF BULK AT MOST 1048576: true; the input reads as it did. -/
def dimTellsUptoRow : OpenClaim := { program := "ytcajdkncohcaeaadoor", sum := "e0e393a72dc2971be71703ae504b31e2175786b70231c88f41fdab6a4af6b0f6", func := "steelyard/steelyardlaw11.DimTells", spec := "dimTells", inPlace := ["internal/abi.NoEscape", "internal/bytealg.MakeNoZero"], named := ["steelyard/dim.names", "internal/strconv.uint64pow10", "math/bits.deBruijn32tab", "math/bits.deBruijn64tab"], apart := false, laid := [("math/bits.deBruijn32tab", laid_math_bits_deBruijn32tab), ("math/bits.deBruijn64tab", laid_math_bits_deBruijn64tab), ("internal/strconv.uint64pow10", laid_internal_strconv_uint64pow10), ("steelyard/dim.names", laid_steelyard_dim_names)], narrowed := true }
def DimTellsUptoSaid : Prop := dimTellsUptoRow.holds Tryd.pinned (OpenSpec.upto dimTellsSpec)

/-- 'steelyardlaw11.DimGroup', WHERE WHAT IT READS IS OF BULK AT MOST 1048576: true; the input reads as it did. -/
def dimGroupUptoRow : OpenClaim := { program := "ytcajdkncohcaeaadoor", sum := "e0e393a72dc2971be71703ae504b31e2175786b70231c88f41fdab6a4af6b0f6", func := "steelyard/steelyardlaw11.DimGroup", spec := "dimGroup", inPlace := ["internal/abi.NoEscape", "internal/bytealg.MakeNoZero"], named := ["steelyard/dim.names", "internal/strconv.uint64pow10", "math/bits.deBruijn32tab", "math/bits.deBruijn64tab"], apart := false, laid := [("math/bits.deBruijn32tab", laid_math_bits_deBruijn32tab), ("math/bits.deBruijn64tab", laid_math_bits_deBruijn64tab), ("internal/strconv.uint64pow10", laid_internal_strconv_uint64pow10), ("steelyard/dim.names", laid_steelyard_dim_names)], narrowed := true }
def DimGroupUptoSaid : Prop := dimGroupUptoRow.holds Tryd.pinned (OpenSpec.upto dimGroupSpec)

/-- 'steelyardlaw11.DimTexts', WHERE WHAT IT READS IS OF BULK AT MOST 1048576: true; the input reads as it did. -/
def dimTextsUptoRow : OpenClaim := { program := "ytcajdkncohcaeaadoor", sum := "e0e393a72dc2971be71703ae504b31e2175786b70231c88f41fdab6a4af6b0f6", func := "steelyard/steelyardlaw11.DimTexts", spec := "dimTexts", inPlace := ["internal/abi.NoEscape", "internal/bytealg.MakeNoZero"], named := ["steelyard/dim.names", "internal/strconv.uint64pow10", "math/bits.deBruijn32tab", "math/bits.deBruijn64tab"], apart := false, laid := [("math/bits.deBruijn32tab", laid_math_bits_deBruijn32tab), ("math/bits.deBruijn64tab", laid_math_bits_deBruijn64tab), ("internal/strconv.uint64pow10", laid_internal_strconv_uint64pow10), ("steelyard/dim.names", laid_steelyard_dim_names)], narrowed := true }
def DimTextsUptoSaid : Prop := dimTextsUptoRow.holds Tryd.pinned (OpenSpec.upto dimTextsSpec)

/-- 'steelyardlaw11.DimOne', WHERE WHAT IT READS IS OF BULK AT MOST 1048576: true; the input reads as it did. -/
def dimOneUptoRow : OpenClaim := { program := "ytcajdkncohcaeaadoor", sum := "e0e393a72dc2971be71703ae504b31e2175786b70231c88f41fdab6a4af6b0f6", func := "steelyard/steelyardlaw11.DimOne", spec := "dimOne", inPlace := ["internal/abi.NoEscape", "internal/bytealg.MakeNoZero"], named := ["steelyard/dim.names", "internal/strconv.uint64pow10", "math/bits.deBruijn32tab", "math/bits.deBruijn64tab"], apart := false, laid := [("math/bits.deBruijn32tab", laid_math_bits_deBruijn32tab), ("math/bits.deBruijn64tab", laid_math_bits_deBruijn64tab), ("internal/strconv.uint64pow10", laid_internal_strconv_uint64pow10), ("steelyard/dim.names", laid_steelyard_dim_names)], narrowed := true }
def DimOneUptoSaid : Prop := dimOneUptoRow.holds Tryd.pinned (OpenSpec.upto dimOneSpec)

end Rows
end Go.Proofs.YtcajdkncohcaeaaDoor
