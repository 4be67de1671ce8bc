/-
  DERIVED. GIVEN WITH THE SEED: THE CARDS: each row of YtlfcdmibknmjeaaDoorRows.lean that lists a variable, with what it lists TIED to the program's text (the seventh form; the later family's looks); each row that meets fmt, with fmt's text TOLD by the authors' own Lean function (tested against real Go, not proved from fmt's source: count such statements apart). THE CARD IS WHAT COUNTS. Prove the row's statement (the work); the ties are given (YtlfcdmibknmjeaaDoorTie.lean); close each card by the builder's one call (the guide's Derived/Test/ToyasCard.lean, 'card_holds'). Laid BY PROGRAM, IN A SANDBOX (cutbox-door.mjs). By AI agents, Wed Nov 11 2026. No macro, syntax, notation, axiom, sorry.
-/
import Derived.Test.YtlfcdmibknmjeaaDoorRows
import GoSem.ClaimSeven
namespace Go.Proofs.YtlfcdmibknmjeaaDoor
namespace Rows

/-- THE TIED CARD OF 'steelyardlaw17.NamesTell'. -/
def namesTellCard : Claim7 := { stood := { row := namesTellRow, standIns := [], harness := (true, "84d17fe594fd0fa6baeca16897f74f0fb32b0a1cd365cf66a012d411fa59aa9c"), looks := false }, kinds := [], alts := [], laidByText := true, laidKinds := [.data, .data, .widerDeep], laidTests := true, laidLooks := .later }
def NamesTellCardSaid : Prop := Claim7.holds Tryd.pinned (.plain (OpenSpec.ofChange namesTellSpec)) namesTellCard

/-- THE TIED CARD OF 'steelyardlaw17.NamesAhead'. -/
def namesAheadCard : Claim7 := { stood := { row := namesAheadRow, standIns := [], harness := (true, "84d17fe594fd0fa6baeca16897f74f0fb32b0a1cd365cf66a012d411fa59aa9c"), looks := false }, kinds := [], alts := [], laidByText := true, laidKinds := [.data, .data, .widerDeep], laidTests := true, laidLooks := .later }
def NamesAheadCardSaid : Prop := Claim7.holds Tryd.pinned (.plain (OpenSpec.ofChange namesAheadSpec)) namesAheadCard

/-- THE TIED CARD OF 'steelyardlaw17.NamesFirst'. -/
def namesFirstCard : Claim7 := { stood := { row := namesFirstRow, standIns := [], harness := (true, "84d17fe594fd0fa6baeca16897f74f0fb32b0a1cd365cf66a012d411fa59aa9c"), looks := false }, kinds := [], alts := [], laidByText := true, laidKinds := [.data, .data, .widerDeep], laidTests := true, laidLooks := .later }
def NamesFirstCardSaid : Prop := Claim7.holds Tryd.pinned (.plain (OpenSpec.ofChange namesFirstSpec)) namesFirstCard

/-- THE TIED CARD OF 'steelyardlaw17.NamesTwice'. -/
def namesTwiceCard : Claim7 := { stood := { row := namesTwiceRow, standIns := [], harness := (true, "84d17fe594fd0fa6baeca16897f74f0fb32b0a1cd365cf66a012d411fa59aa9c"), looks := false }, kinds := [], alts := [], laidByText := true, laidKinds := [.data, .data, .widerDeep], laidTests := true, laidLooks := .later }
def NamesTwiceCardSaid : Prop := Claim7.holds Tryd.pinned (.plain (OpenSpec.ofChange namesTwiceSpec)) namesTwiceCard

/-- THE SECOND FORM's CARD OF 'steelyardlaw17.NamesTell'. -/
def namesTellUptoCard : Claim7 := { stood := { row := namesTellUptoRow, standIns := [], harness := (true, "84d17fe594fd0fa6baeca16897f74f0fb32b0a1cd365cf66a012d411fa59aa9c"), looks := false }, kinds := [], alts := [], laidByText := true, laidKinds := [.data, .data, .widerDeep], laidTests := true, laidLooks := .later }
def NamesTellUptoCardSaid : Prop := Claim7.holds Tryd.pinned (.plain (OpenSpec.upto namesTellSpec)) namesTellUptoCard

/-- THE SECOND FORM's CARD OF 'steelyardlaw17.NamesAhead'. -/
def namesAheadUptoCard : Claim7 := { stood := { row := namesAheadUptoRow, standIns := [], harness := (true, "84d17fe594fd0fa6baeca16897f74f0fb32b0a1cd365cf66a012d411fa59aa9c"), looks := false }, kinds := [], alts := [], laidByText := true, laidKinds := [.data, .data, .widerDeep], laidTests := true, laidLooks := .later }
def NamesAheadUptoCardSaid : Prop := Claim7.holds Tryd.pinned (.plain (OpenSpec.upto namesAheadSpec)) namesAheadUptoCard

/-- THE SECOND FORM's CARD OF 'steelyardlaw17.NamesFirst'. -/
def namesFirstUptoCard : Claim7 := { stood := { row := namesFirstUptoRow, standIns := [], harness := (true, "84d17fe594fd0fa6baeca16897f74f0fb32b0a1cd365cf66a012d411fa59aa9c"), looks := false }, kinds := [], alts := [], laidByText := true, laidKinds := [.data, .data, .widerDeep], laidTests := true, laidLooks := .later }
def NamesFirstUptoCardSaid : Prop := Claim7.holds Tryd.pinned (.plain (OpenSpec.upto namesFirstSpec)) namesFirstUptoCard

/-- THE SECOND FORM's CARD OF 'steelyardlaw17.NamesTwice'. -/
def namesTwiceUptoCard : Claim7 := { stood := { row := namesTwiceUptoRow, standIns := [], harness := (true, "84d17fe594fd0fa6baeca16897f74f0fb32b0a1cd365cf66a012d411fa59aa9c"), looks := false }, kinds := [], alts := [], laidByText := true, laidKinds := [.data, .data, .widerDeep], laidTests := true, laidLooks := .later }
def NamesTwiceUptoCardSaid : Prop := Claim7.holds Tryd.pinned (.plain (OpenSpec.upto namesTwiceSpec)) namesTwiceUptoCard
end Rows
end Go.Proofs.YtlfcdmibknmjeaaDoor
