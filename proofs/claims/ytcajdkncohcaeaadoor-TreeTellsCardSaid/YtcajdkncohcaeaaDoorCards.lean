/-
  DERIVED. GIVEN WITH THE SEED: THE CARDS: each row of YtcajdkncohcaeaaDoorRows.lean that lists a variable, with what it lists TIED to the program's text (the seventh form; the later family's looks); each row that meets fmt, with fmt's text TOLD by the authors' own Lean function (tested against real Go, not proved from fmt's source: count such statements apart). THE CARD IS WHAT COUNTS. Prove the row's statement (the work); the ties are given (YtcajdkncohcaeaaDoorTie.lean); close each card by the builder's one call (the guide's Derived/Test/ToyasCard.lean, 'card_holds'). Laid BY PROGRAM, IN A SANDBOX (cutbox-door.mjs). By AI agents, Wed Nov 11 2026. No macro, syntax, notation, axiom, sorry.
-/
import Derived.Test.YtcajdkncohcaeaaDoorRows
import GoSem.ClaimSeven
namespace Go.Proofs.YtcajdkncohcaeaaDoor
namespace Rows

/-- THE TIED CARD OF 'steelyardlaw13.LexTells'. -/
def lexTellsCard : Claim7 := { stood := { row := lexTellsRow, standIns := [], harness := (true, "de43765a912e042e28922f03709a10c1a2ad3f1e31fc3e2ebfafb95d32754a5d"), looks := false }, kinds := [], alts := [], laidByText := true, laidKinds := [.data, .data, .widerDeep], laidTests := true, laidLooks := .later }
def LexTellsCardSaid : Prop := Claim7.holds Tryd.pinned (.plain (OpenSpec.ofChange lexTellsSpec)) lexTellsCard

/-- THE TIED CARD OF 'steelyardlaw13.LexStands'. -/
def lexStandsCard : Claim7 := { stood := { row := lexStandsRow, standIns := [], harness := (true, "de43765a912e042e28922f03709a10c1a2ad3f1e31fc3e2ebfafb95d32754a5d"), looks := false }, kinds := [], alts := [], laidByText := true, laidKinds := [.data, .data, .widerDeep], laidTests := true, laidLooks := .later }
def LexStandsCardSaid : Prop := Claim7.holds Tryd.pinned (.plain (OpenSpec.ofChange lexStandsSpec)) lexStandsCard

/-- THE TIED CARD OF 'steelyardlaw13.LexNames'. -/
def lexNamesCard : Claim7 := { stood := { row := lexNamesRow, standIns := [], harness := (true, "de43765a912e042e28922f03709a10c1a2ad3f1e31fc3e2ebfafb95d32754a5d"), looks := false }, kinds := [], alts := [], laidByText := true, laidKinds := [.data, .data, .widerDeep], laidTests := true, laidLooks := .later }
def LexNamesCardSaid : Prop := Claim7.holds Tryd.pinned (.plain (OpenSpec.ofChange lexNamesSpec)) lexNamesCard

/-- THE TIED CARD OF 'steelyardlaw13.LexKinds'. -/
def lexKindsCard : Claim7 := { stood := { row := lexKindsRow, standIns := [], harness := (true, "de43765a912e042e28922f03709a10c1a2ad3f1e31fc3e2ebfafb95d32754a5d"), looks := false }, kinds := [], alts := [], laidByText := true, laidKinds := [.data, .data, .widerDeep], laidTests := true, laidLooks := .later }
def LexKindsCardSaid : Prop := Claim7.holds Tryd.pinned (.plain (OpenSpec.ofChange lexKindsSpec)) lexKindsCard

/-- THE TIED CARD OF 'steelyardlaw14.TreeTells'. -/
def treeTellsCard : Claim7 := { stood := { row := treeTellsRow, standIns := [], harness := (true, "de43765a912e042e28922f03709a10c1a2ad3f1e31fc3e2ebfafb95d32754a5d"), looks := false }, kinds := [], alts := [], laidByText := true, laidKinds := [.data, .data, .widerDeep], laidTests := true, laidLooks := .later }
def TreeTellsCardSaid : Prop := Claim7.holds Tryd.pinned (.plain (OpenSpec.ofChange treeTellsSpec)) treeTellsCard

/-- THE TIED CARD OF 'steelyardlaw14.TreeSizes'. -/
def treeSizesCard : Claim7 := { stood := { row := treeSizesRow, standIns := [], harness := (true, "de43765a912e042e28922f03709a10c1a2ad3f1e31fc3e2ebfafb95d32754a5d"), looks := false }, kinds := [], alts := [], laidByText := true, laidKinds := [.data, .data, .widerDeep], laidTests := true, laidLooks := .later }
def TreeSizesCardSaid : Prop := Claim7.holds Tryd.pinned (.plain (OpenSpec.ofChange treeSizesSpec)) treeSizesCard

/-- THE TIED CARD OF 'steelyardlaw14.TreeSame'. -/
def treeSameCard : Claim7 := { stood := { row := treeSameRow, standIns := [], harness := (true, "de43765a912e042e28922f03709a10c1a2ad3f1e31fc3e2ebfafb95d32754a5d"), looks := false }, kinds := [], alts := [], laidByText := true, laidKinds := [.data, .data, .widerDeep], laidTests := true, laidLooks := .later }
def TreeSameCardSaid : Prop := Claim7.holds Tryd.pinned (.plain (OpenSpec.ofChange treeSameSpec)) treeSameCard

/-- THE TIED CARD OF 'steelyardlaw14.TreeLeaves'. -/
def treeLeavesCard : Claim7 := { stood := { row := treeLeavesRow, standIns := [], harness := (true, "de43765a912e042e28922f03709a10c1a2ad3f1e31fc3e2ebfafb95d32754a5d"), looks := false }, kinds := [], alts := [], laidByText := true, laidKinds := [.data, .data, .widerDeep], laidTests := true, laidLooks := .later }
def TreeLeavesCardSaid : Prop := Claim7.holds Tryd.pinned (.plain (OpenSpec.ofChange treeLeavesSpec)) treeLeavesCard

/-- THE TIED CARD OF 'steelyardlaw11.DimTells'. -/
def dimTellsCard : Claim7 := { stood := { row := dimTellsRow, standIns := [], harness := (true, "de43765a912e042e28922f03709a10c1a2ad3f1e31fc3e2ebfafb95d32754a5d"), looks := false }, kinds := [], alts := [], laidByText := true, laidKinds := [.data, .data, .data, .data], laidTests := true, laidLooks := .later }
def DimTellsCardSaid : Prop := Claim7.holds Tryd.pinned (.plain (OpenSpec.ofChange dimTellsSpec)) dimTellsCard

/-- THE TIED CARD OF 'steelyardlaw11.DimGroup'. -/
def dimGroupCard : Claim7 := { stood := { row := dimGroupRow, standIns := [], harness := (true, "de43765a912e042e28922f03709a10c1a2ad3f1e31fc3e2ebfafb95d32754a5d"), looks := false }, kinds := [], alts := [], laidByText := true, laidKinds := [.data, .data, .data, .data], laidTests := true, laidLooks := .later }
def DimGroupCardSaid : Prop := Claim7.holds Tryd.pinned (.plain (OpenSpec.ofChange dimGroupSpec)) dimGroupCard

/-- THE TIED CARD OF 'steelyardlaw11.DimTexts'. -/
def dimTextsCard : Claim7 := { stood := { row := dimTextsRow, standIns := [], harness := (true, "de43765a912e042e28922f03709a10c1a2ad3f1e31fc3e2ebfafb95d32754a5d"), looks := false }, kinds := [], alts := [], laidByText := true, laidKinds := [.data, .data, .data, .data], laidTests := true, laidLooks := .later }
def DimTextsCardSaid : Prop := Claim7.holds Tryd.pinned (.plain (OpenSpec.ofChange dimTextsSpec)) dimTextsCard

/-- THE TIED CARD OF 'steelyardlaw11.DimOne'. -/
def dimOneCard : Claim7 := { stood := { row := dimOneRow, standIns := [], harness := (true, "de43765a912e042e28922f03709a10c1a2ad3f1e31fc3e2ebfafb95d32754a5d"), looks := false }, kinds := [], alts := [], laidByText := true, laidKinds := [.data, .data, .data, .data], laidTests := true, laidLooks := .later }
def DimOneCardSaid : Prop := Claim7.holds Tryd.pinned (.plain (OpenSpec.ofChange dimOneSpec)) dimOneCard

/-- THE SECOND FORM's CARD OF 'steelyardlaw13.LexTells'. -/
def lexTellsUptoCard : Claim7 := { stood := { row := lexTellsUptoRow, standIns := [], harness := (true, "de43765a912e042e28922f03709a10c1a2ad3f1e31fc3e2ebfafb95d32754a5d"), looks := false }, kinds := [], alts := [], laidByText := true, laidKinds := [.data, .data, .widerDeep], laidTests := true, laidLooks := .later }
def LexTellsUptoCardSaid : Prop := Claim7.holds Tryd.pinned (.plain (OpenSpec.upto lexTellsSpec)) lexTellsUptoCard

/-- THE SECOND FORM's CARD OF 'steelyardlaw13.LexStands'. -/
def lexStandsUptoCard : Claim7 := { stood := { row := lexStandsUptoRow, standIns := [], harness := (true, "de43765a912e042e28922f03709a10c1a2ad3f1e31fc3e2ebfafb95d32754a5d"), looks := false }, kinds := [], alts := [], laidByText := true, laidKinds := [.data, .data, .widerDeep], laidTests := true, laidLooks := .later }
def LexStandsUptoCardSaid : Prop := Claim7.holds Tryd.pinned (.plain (OpenSpec.upto lexStandsSpec)) lexStandsUptoCard

/-- THE SECOND FORM's CARD OF 'steelyardlaw13.LexNames'. -/
def lexNamesUptoCard : Claim7 := { stood := { row := lexNamesUptoRow, standIns := [], harness := (true, "de43765a912e042e28922f03709a10c1a2ad3f1e31fc3e2ebfafb95d32754a5d"), looks := false }, kinds := [], alts := [], laidByText := true, laidKinds := [.data, .data, .widerDeep], laidTests := true, laidLooks := .later }
def LexNamesUptoCardSaid : Prop := Claim7.holds Tryd.pinned (.plain (OpenSpec.upto lexNamesSpec)) lexNamesUptoCard

/-- THE SECOND FORM's CARD OF 'steelyardlaw13.LexKinds'. -/
def lexKindsUptoCard : Claim7 := { stood := { row := lexKindsUptoRow, standIns := [], harness := (true, "de43765a912e042e28922f03709a10c1a2ad3f1e31fc3e2ebfafb95d32754a5d"), looks := false }, kinds := [], alts := [], laidByText := true, laidKinds := [.data, .data, .widerDeep], laidTests := true, laidLooks := .later }
def LexKindsUptoCardSaid : Prop := Claim7.holds Tryd.pinned (.plain (OpenSpec.upto lexKindsSpec)) lexKindsUptoCard

/-- THE SECOND FORM's CARD OF 'steelyardlaw14.TreeTells'. -/
def treeTellsUptoCard : Claim7 := { stood := { row := treeTellsUptoRow, standIns := [], harness := (true, "de43765a912e042e28922f03709a10c1a2ad3f1e31fc3e2ebfafb95d32754a5d"), looks := false }, kinds := [], alts := [], laidByText := true, laidKinds := [.data, .data, .widerDeep], laidTests := true, laidLooks := .later }
def TreeTellsUptoCardSaid : Prop := Claim7.holds Tryd.pinned (.plain (OpenSpec.upto treeTellsSpec)) treeTellsUptoCard

/-- THE SECOND FORM's CARD OF 'steelyardlaw14.TreeSizes'. -/
def treeSizesUptoCard : Claim7 := { stood := { row := treeSizesUptoRow, standIns := [], harness := (true, "de43765a912e042e28922f03709a10c1a2ad3f1e31fc3e2ebfafb95d32754a5d"), looks := false }, kinds := [], alts := [], laidByText := true, laidKinds := [.data, .data, .widerDeep], laidTests := true, laidLooks := .later }
def TreeSizesUptoCardSaid : Prop := Claim7.holds Tryd.pinned (.plain (OpenSpec.upto treeSizesSpec)) treeSizesUptoCard

/-- THE SECOND FORM's CARD OF 'steelyardlaw14.TreeSame'. -/
def treeSameUptoCard : Claim7 := { stood := { row := treeSameUptoRow, standIns := [], harness := (true, "de43765a912e042e28922f03709a10c1a2ad3f1e31fc3e2ebfafb95d32754a5d"), looks := false }, kinds := [], alts := [], laidByText := true, laidKinds := [.data, .data, .widerDeep], laidTests := true, laidLooks := .later }
def TreeSameUptoCardSaid : Prop := Claim7.holds Tryd.pinned (.plain (OpenSpec.upto treeSameSpec)) treeSameUptoCard

/-- THE SECOND FORM's CARD OF 'steelyardlaw14.TreeLeaves'. -/
def treeLeavesUptoCard : Claim7 := { stood := { row := treeLeavesUptoRow, standIns := [], harness := (true, "de43765a912e042e28922f03709a10c1a2ad3f1e31fc3e2ebfafb95d32754a5d"), looks := false }, kinds := [], alts := [], laidByText := true, laidKinds := [.data, .data, .widerDeep], laidTests := true, laidLooks := .later }
def TreeLeavesUptoCardSaid : Prop := Claim7.holds Tryd.pinned (.plain (OpenSpec.upto treeLeavesSpec)) treeLeavesUptoCard

/-- THE SECOND FORM's CARD OF 'steelyardlaw11.DimTells'. -/
def dimTellsUptoCard : Claim7 := { stood := { row := dimTellsUptoRow, standIns := [], harness := (true, "de43765a912e042e28922f03709a10c1a2ad3f1e31fc3e2ebfafb95d32754a5d"), looks := false }, kinds := [], alts := [], laidByText := true, laidKinds := [.data, .data, .data, .data], laidTests := true, laidLooks := .later }
def DimTellsUptoCardSaid : Prop := Claim7.holds Tryd.pinned (.plain (OpenSpec.upto dimTellsSpec)) dimTellsUptoCard

/-- THE SECOND FORM's CARD OF 'steelyardlaw11.DimGroup'. -/
def dimGroupUptoCard : Claim7 := { stood := { row := dimGroupUptoRow, standIns := [], harness := (true, "de43765a912e042e28922f03709a10c1a2ad3f1e31fc3e2ebfafb95d32754a5d"), looks := false }, kinds := [], alts := [], laidByText := true, laidKinds := [.data, .data, .data, .data], laidTests := true, laidLooks := .later }
def DimGroupUptoCardSaid : Prop := Claim7.holds Tryd.pinned (.plain (OpenSpec.upto dimGroupSpec)) dimGroupUptoCard

/-- THE SECOND FORM's CARD OF 'steelyardlaw11.DimTexts'. -/
def dimTextsUptoCard : Claim7 := { stood := { row := dimTextsUptoRow, standIns := [], harness := (true, "de43765a912e042e28922f03709a10c1a2ad3f1e31fc3e2ebfafb95d32754a5d"), looks := false }, kinds := [], alts := [], laidByText := true, laidKinds := [.data, .data, .data, .data], laidTests := true, laidLooks := .later }
def DimTextsUptoCardSaid : Prop := Claim7.holds Tryd.pinned (.plain (OpenSpec.upto dimTextsSpec)) dimTextsUptoCard

/-- THE SECOND FORM's CARD OF 'steelyardlaw11.DimOne'. -/
def dimOneUptoCard : Claim7 := { stood := { row := dimOneUptoRow, standIns := [], harness := (true, "de43765a912e042e28922f03709a10c1a2ad3f1e31fc3e2ebfafb95d32754a5d"), looks := false }, kinds := [], alts := [], laidByText := true, laidKinds := [.data, .data, .data, .data], laidTests := true, laidLooks := .later }
def DimOneUptoCardSaid : Prop := Claim7.holds Tryd.pinned (.plain (OpenSpec.upto dimOneSpec)) dimOneUptoCard
end Rows
end Go.Proofs.YtcajdkncohcaeaaDoor
