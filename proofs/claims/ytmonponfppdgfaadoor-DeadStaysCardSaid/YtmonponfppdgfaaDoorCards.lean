/-
  DERIVED. GIVEN WITH THE SEED: THE CARDS: each row of YtmonponfppdgfaaDoorRows.lean that lists a variable, with what it lists TIED to the program's text (the seventh form; the later family's looks); each row that meets fmt, with fmt's text TOLD by the authors' own Lean function (tested against real Go, not proved from fmt's source: count such statements apart). THE CARD IS WHAT COUNTS. Prove the row's statement (the work); the ties are given (YtmonponfppdgfaaDoorTie.lean); close each card by the builder's one call (the guide's Derived/Test/ToyasCard.lean, 'card_holds'). Laid BY PROGRAM, IN A SANDBOX (cutbox-door.mjs). By AI agents, Wed Nov 11 2026. No macro, syntax, notation, axiom, sorry.
-/
import Derived.Test.YtmonponfppdgfaaDoorRows
import GoSem.ClaimSeven
namespace Go.Proofs.YtmonponfppdgfaaDoor
namespace Rows

/-- THE TIED CARD OF 'stilelaw14.DeadRest'. -/
def deadRestCard : Claim7 := { stood := { row := deadRestRow, standIns := [], harness := (true, "b8da0b6d94c79170f3326ac348dec9f8c494314b9b22c81bf5f264d8e5f95cb0"), looks := false }, kinds := [], alts := [], laidByText := true, laidKinds := [.data], laidTests := true, laidLooks := .later }
def DeadRestCardSaid : Prop := Claim7.holds Tryd.pinned (.plain (OpenSpec.ofChange deadRestSpec)) deadRestCard

/-- THE TIED CARD OF 'stilelaw14.DeadReads'. -/
def deadReadsCard : Claim7 := { stood := { row := deadReadsRow, standIns := [], harness := (true, "b8da0b6d94c79170f3326ac348dec9f8c494314b9b22c81bf5f264d8e5f95cb0"), looks := false }, kinds := [], alts := [], laidByText := true, laidKinds := [.data], laidTests := true, laidLooks := .later }
def DeadReadsCardSaid : Prop := Claim7.holds Tryd.pinned (.plain (OpenSpec.ofChange deadReadsSpec)) deadReadsCard

/-- THE TIED CARD OF 'stilelaw14.DeadStays'. -/
def deadStaysCard : Claim7 := { stood := { row := deadStaysRow, standIns := [], harness := (true, "b8da0b6d94c79170f3326ac348dec9f8c494314b9b22c81bf5f264d8e5f95cb0"), looks := false }, kinds := [], alts := [], laidByText := true, laidKinds := [.data], laidTests := true, laidLooks := .later }
def DeadStaysCardSaid : Prop := Claim7.holds Tryd.pinned (.plain (OpenSpec.ofChange deadStaysSpec)) deadStaysCard

/-- THE SECOND FORM's CARD OF 'stilelaw14.DeadRest'. -/
def deadRestUptoCard : Claim7 := { stood := { row := deadRestUptoRow, standIns := [], harness := (true, "b8da0b6d94c79170f3326ac348dec9f8c494314b9b22c81bf5f264d8e5f95cb0"), looks := false }, kinds := [], alts := [], laidByText := true, laidKinds := [.data], laidTests := true, laidLooks := .later }
def DeadRestUptoCardSaid : Prop := Claim7.holds Tryd.pinned (.plain (OpenSpec.upto deadRestSpec)) deadRestUptoCard

/-- THE SECOND FORM's CARD OF 'stilelaw14.DeadReads'. -/
def deadReadsUptoCard : Claim7 := { stood := { row := deadReadsUptoRow, standIns := [], harness := (true, "b8da0b6d94c79170f3326ac348dec9f8c494314b9b22c81bf5f264d8e5f95cb0"), looks := false }, kinds := [], alts := [], laidByText := true, laidKinds := [.data], laidTests := true, laidLooks := .later }
def DeadReadsUptoCardSaid : Prop := Claim7.holds Tryd.pinned (.plain (OpenSpec.upto deadReadsSpec)) deadReadsUptoCard

/-- THE SECOND FORM's CARD OF 'stilelaw14.DeadStays'. -/
def deadStaysUptoCard : Claim7 := { stood := { row := deadStaysUptoRow, standIns := [], harness := (true, "b8da0b6d94c79170f3326ac348dec9f8c494314b9b22c81bf5f264d8e5f95cb0"), looks := false }, kinds := [], alts := [], laidByText := true, laidKinds := [.data], laidTests := true, laidLooks := .later }
def DeadStaysUptoCardSaid : Prop := Claim7.holds Tryd.pinned (.plain (OpenSpec.upto deadStaysSpec)) deadStaysUptoCard
end Rows
end Go.Proofs.YtmonponfppdgfaaDoor
