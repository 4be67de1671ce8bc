/-
  DERIVED. GIVEN WITH THE SEED: THE CARDS: each row of YtlfcdmibknmjeaaGreatDoorRows.lean that lists a variable, with what it lists TIED to the program's text (the seventh form; the later family's looks); each row that meets fmt, with fmt's text TOLD by the authors' own Lean function (tested against real Go, not proved from fmt's source: count such statements apart). THE CARD IS WHAT COUNTS. Prove the row's statement (the work); the ties are given (YtlfcdmibknmjeaaGreatDoorTie.lean); close each card by the builder's one call (the guide's Derived/Test/ToyasCard.lean, 'card_holds'). Laid BY PROGRAM, IN A SANDBOX (cutbox-door.mjs). By AI agents, Wed Nov 11 2026. No macro, syntax, notation, axiom, sorry.
-/
import Derived.Test.YtlfcdmibknmjeaaGreatDoorRows
import GoSem.ClaimSeven
namespace Go.Proofs.YtlfcdmibknmjeaaGreatDoor
namespace Rows

/-- THE TIED CARD OF 'steelyardlaw22.SimpleTells'. -/
def simpleTellsCard : Claim7 := { stood := { row := simpleTellsRow, standIns := [], harness := (true, "6937648df337bbbdcbce81f5fe1c959187353749f7b56bc389a8aa2cd6c2aaee"), looks := false }, kinds := [], alts := [], laidByText := true, laidKinds := [.data], laidTests := true, laidLooks := .later }
def SimpleTellsCardSaid : Prop := Claim7.holds Tryz.pinned (.plain (OpenSpec.ofChange simpleTellsSpec)) simpleTellsCard

/-- THE TIED CARD OF 'steelyardlaw22.SimpleOnce'. -/
def simpleOnceCard : Claim7 := { stood := { row := simpleOnceRow, standIns := [], harness := (true, "6937648df337bbbdcbce81f5fe1c959187353749f7b56bc389a8aa2cd6c2aaee"), looks := false }, kinds := [], alts := [], laidByText := true, laidKinds := [.data], laidTests := true, laidLooks := .later }
def SimpleOnceCardSaid : Prop := Claim7.holds Tryz.pinned (.plain (OpenSpec.ofChange simpleOnceSpec)) simpleOnceCard

/-- THE TIED CARD OF 'steelyardlaw22.SimpleAgain'. -/
def simpleAgainCard : Claim7 := { stood := { row := simpleAgainRow, standIns := [], harness := (true, "6937648df337bbbdcbce81f5fe1c959187353749f7b56bc389a8aa2cd6c2aaee"), looks := false }, kinds := [], alts := [], laidByText := true, laidKinds := [.data], laidTests := true, laidLooks := .later }
def SimpleAgainCardSaid : Prop := Claim7.holds Tryz.pinned (.plain (OpenSpec.ofChange simpleAgainSpec)) simpleAgainCard

/-- THE TIED CARD OF 'steelyardlaw22.SimpleLits'. -/
def simpleLitsCard : Claim7 := { stood := { row := simpleLitsRow, standIns := [], harness := (true, "6937648df337bbbdcbce81f5fe1c959187353749f7b56bc389a8aa2cd6c2aaee"), looks := false }, kinds := [], alts := [], laidByText := true, laidKinds := [.data], laidTests := true, laidLooks := .later }
def SimpleLitsCardSaid : Prop := Claim7.holds Tryz.pinned (.plain (OpenSpec.ofChange simpleLitsSpec)) simpleLitsCard

/-- THE TIED CARD OF 'steelyardlaw22.SimpleSame'. -/
def simpleSameCard : Claim7 := { stood := { row := simpleSameRow, standIns := [], harness := (true, "6937648df337bbbdcbce81f5fe1c959187353749f7b56bc389a8aa2cd6c2aaee"), looks := false }, kinds := [], alts := [], laidByText := true, laidKinds := [.data], laidTests := true, laidLooks := .later }
def SimpleSameCardSaid : Prop := Claim7.holds Tryz.pinned (.plain (OpenSpec.ofChange simpleSameSpec)) simpleSameCard

/-- THE SECOND FORM's CARD OF 'steelyardlaw22.SimpleTells'. -/
def simpleTellsUptoCard : Claim7 := { stood := { row := simpleTellsUptoRow, standIns := [], harness := (true, "6937648df337bbbdcbce81f5fe1c959187353749f7b56bc389a8aa2cd6c2aaee"), looks := false }, kinds := [], alts := [], laidByText := true, laidKinds := [.data], laidTests := true, laidLooks := .later }
def SimpleTellsUptoCardSaid : Prop := Claim7.holds Tryz.pinned (.plain (OpenSpec.upto simpleTellsSpec)) simpleTellsUptoCard

/-- THE SECOND FORM's CARD OF 'steelyardlaw22.SimpleOnce'. -/
def simpleOnceUptoCard : Claim7 := { stood := { row := simpleOnceUptoRow, standIns := [], harness := (true, "6937648df337bbbdcbce81f5fe1c959187353749f7b56bc389a8aa2cd6c2aaee"), looks := false }, kinds := [], alts := [], laidByText := true, laidKinds := [.data], laidTests := true, laidLooks := .later }
def SimpleOnceUptoCardSaid : Prop := Claim7.holds Tryz.pinned (.plain (OpenSpec.upto simpleOnceSpec)) simpleOnceUptoCard

/-- THE SECOND FORM's CARD OF 'steelyardlaw22.SimpleAgain'. -/
def simpleAgainUptoCard : Claim7 := { stood := { row := simpleAgainUptoRow, standIns := [], harness := (true, "6937648df337bbbdcbce81f5fe1c959187353749f7b56bc389a8aa2cd6c2aaee"), looks := false }, kinds := [], alts := [], laidByText := true, laidKinds := [.data], laidTests := true, laidLooks := .later }
def SimpleAgainUptoCardSaid : Prop := Claim7.holds Tryz.pinned (.plain (OpenSpec.upto simpleAgainSpec)) simpleAgainUptoCard

/-- THE SECOND FORM's CARD OF 'steelyardlaw22.SimpleLits'. -/
def simpleLitsUptoCard : Claim7 := { stood := { row := simpleLitsUptoRow, standIns := [], harness := (true, "6937648df337bbbdcbce81f5fe1c959187353749f7b56bc389a8aa2cd6c2aaee"), looks := false }, kinds := [], alts := [], laidByText := true, laidKinds := [.data], laidTests := true, laidLooks := .later }
def SimpleLitsUptoCardSaid : Prop := Claim7.holds Tryz.pinned (.plain (OpenSpec.upto simpleLitsSpec)) simpleLitsUptoCard

/-- THE SECOND FORM's CARD OF 'steelyardlaw22.SimpleSame'. -/
def simpleSameUptoCard : Claim7 := { stood := { row := simpleSameUptoRow, standIns := [], harness := (true, "6937648df337bbbdcbce81f5fe1c959187353749f7b56bc389a8aa2cd6c2aaee"), looks := false }, kinds := [], alts := [], laidByText := true, laidKinds := [.data], laidTests := true, laidLooks := .later }
def SimpleSameUptoCardSaid : Prop := Claim7.holds Tryz.pinned (.plain (OpenSpec.upto simpleSameSpec)) simpleSameUptoCard
end Rows
end Go.Proofs.YtlfcdmibknmjeaaGreatDoor
