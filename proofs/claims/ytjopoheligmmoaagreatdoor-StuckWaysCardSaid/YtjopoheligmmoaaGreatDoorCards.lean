/-
  DERIVED. GIVEN WITH THE SEED: THE CARDS: each row of YtjopoheligmmoaaGreatDoorRows.lean that lists a variable, with what it lists TIED to the program's text (the seventh form; the later family's looks); each row that meets fmt, with fmt's text TOLD by the authors' own Lean function (tested against real Go, not proved from fmt's source: count such statements apart). THE CARD IS WHAT COUNTS. Prove the row's statement (the work); the ties are given (YtjopoheligmmoaaGreatDoorTie.lean); close each card by the builder's one call (the guide's Derived/Test/ToyasCard.lean, 'card_holds'). Laid BY PROGRAM, IN A SANDBOX (cutbox-door.mjs). By AI agents, Wed Nov 11 2026. No macro, syntax, notation, axiom, sorry.
-/
import Derived.Test.YtjopoheligmmoaaGreatDoorRows
import GoSem.ClaimSeven
namespace Go.Proofs.YtjopoheligmmoaaGreatDoor
namespace Rows

/-- THE TIED CARD OF 'stilelaw24.StuckEdges'. -/
def stuckEdgesCard : Claim7 := { stood := { row := stuckEdgesRow, standIns := [], harness := (true, "14b4af768aa3e6a8dd3f17bcbe4400c6eab11aaff17ef5f81a71be15f13cfe4e"), looks := false }, kinds := [], alts := [], laidByText := true, laidKinds := [.data], laidTests := true, laidLooks := .later }
def StuckEdgesCardSaid : Prop := Claim7.holds Tryz.pinned (.plain (OpenSpec.ofChange stuckEdgesSpec)) stuckEdgesCard

/-- THE TIED CARD OF 'stilelaw24.StuckKnots'. -/
def stuckKnotsCard : Claim7 := { stood := { row := stuckKnotsRow, standIns := [], harness := (true, "14b4af768aa3e6a8dd3f17bcbe4400c6eab11aaff17ef5f81a71be15f13cfe4e"), looks := false }, kinds := [], alts := [], laidByText := true, laidKinds := [.data], laidTests := true, laidLooks := .later }
def StuckKnotsCardSaid : Prop := Claim7.holds Tryz.pinned (.plain (OpenSpec.ofChange stuckKnotsSpec)) stuckKnotsCard

/-- THE TIED CARD OF 'stilelaw24.StuckWays'. -/
def stuckWaysCard : Claim7 := { stood := { row := stuckWaysRow, standIns := [], harness := (true, "14b4af768aa3e6a8dd3f17bcbe4400c6eab11aaff17ef5f81a71be15f13cfe4e"), looks := false }, kinds := [], alts := [], laidByText := true, laidKinds := [.data], laidTests := true, laidLooks := .later }
def StuckWaysCardSaid : Prop := Claim7.holds Tryz.pinned (.plain (OpenSpec.ofChange stuckWaysSpec)) stuckWaysCard

/-- THE TIED CARD OF 'stilelaw24.StuckNoRing'. -/
def stuckNoRingCard : Claim7 := { stood := { row := stuckNoRingRow, standIns := [], harness := (true, "14b4af768aa3e6a8dd3f17bcbe4400c6eab11aaff17ef5f81a71be15f13cfe4e"), looks := false }, kinds := [], alts := [], laidByText := true, laidKinds := [.data], laidTests := true, laidLooks := .later }
def StuckNoRingCardSaid : Prop := Claim7.holds Tryz.pinned (.plain (OpenSpec.ofChange stuckNoRingSpec)) stuckNoRingCard

/-- THE TIED CARD OF 'stilelaw24.StuckKnotted'. -/
def stuckKnottedCard : Claim7 := { stood := { row := stuckKnottedRow, standIns := [], harness := (true, "14b4af768aa3e6a8dd3f17bcbe4400c6eab11aaff17ef5f81a71be15f13cfe4e"), looks := false }, kinds := [], alts := [], laidByText := true, laidKinds := [.data], laidTests := true, laidLooks := .later }
def StuckKnottedCardSaid : Prop := Claim7.holds Tryz.pinned (.plain (OpenSpec.ofChange stuckKnottedSpec)) stuckKnottedCard

/-- THE TIED CARD OF 'stilelaw24.StuckStays'. -/
def stuckStaysCard : Claim7 := { stood := { row := stuckStaysRow, standIns := [], harness := (true, "14b4af768aa3e6a8dd3f17bcbe4400c6eab11aaff17ef5f81a71be15f13cfe4e"), looks := false }, kinds := [], alts := [], laidByText := true, laidKinds := [.data], laidTests := true, laidLooks := .later }
def StuckStaysCardSaid : Prop := Claim7.holds Tryz.pinned (.plain (OpenSpec.ofChange stuckStaysSpec)) stuckStaysCard

/-- THE TIED CARD OF 'stilelaw24.StuckTies'. -/
def stuckTiesCard : Claim7 := { stood := { row := stuckTiesRow, standIns := [], harness := (true, "14b4af768aa3e6a8dd3f17bcbe4400c6eab11aaff17ef5f81a71be15f13cfe4e"), looks := false }, kinds := [], alts := [], laidByText := true, laidKinds := [.data], laidTests := true, laidLooks := .later }
def StuckTiesCardSaid : Prop := Claim7.holds Tryz.pinned (.plain (OpenSpec.ofChange stuckTiesSpec)) stuckTiesCard

/-- THE TIED CARD OF 'stilelaw24.StuckRing'. -/
def stuckRingCard : Claim7 := { stood := { row := stuckRingRow, standIns := [], harness := (true, "14b4af768aa3e6a8dd3f17bcbe4400c6eab11aaff17ef5f81a71be15f13cfe4e"), looks := false }, kinds := [], alts := [], laidByText := true, laidKinds := [.data], laidTests := true, laidLooks := .later }
def StuckRingCardSaid : Prop := Claim7.holds Tryz.pinned (.plain (OpenSpec.ofChange stuckRingSpec)) stuckRingCard

/-- THE TIED CARD OF 'stilelaw24.StuckOwn'. -/
def stuckOwnCard : Claim7 := { stood := { row := stuckOwnRow, standIns := [], harness := (true, "14b4af768aa3e6a8dd3f17bcbe4400c6eab11aaff17ef5f81a71be15f13cfe4e"), looks := false }, kinds := [], alts := [], laidByText := true, laidKinds := [.data], laidTests := true, laidLooks := .later }
def StuckOwnCardSaid : Prop := Claim7.holds Tryz.pinned (.plain (OpenSpec.ofChange stuckOwnSpec)) stuckOwnCard

/-- THE SECOND FORM's CARD OF 'stilelaw24.StuckEdges'. -/
def stuckEdgesUptoCard : Claim7 := { stood := { row := stuckEdgesUptoRow, standIns := [], harness := (true, "14b4af768aa3e6a8dd3f17bcbe4400c6eab11aaff17ef5f81a71be15f13cfe4e"), looks := false }, kinds := [], alts := [], laidByText := true, laidKinds := [.data], laidTests := true, laidLooks := .later }
def StuckEdgesUptoCardSaid : Prop := Claim7.holds Tryz.pinned (.plain (OpenSpec.upto stuckEdgesSpec)) stuckEdgesUptoCard

/-- THE SECOND FORM's CARD OF 'stilelaw24.StuckKnots'. -/
def stuckKnotsUptoCard : Claim7 := { stood := { row := stuckKnotsUptoRow, standIns := [], harness := (true, "14b4af768aa3e6a8dd3f17bcbe4400c6eab11aaff17ef5f81a71be15f13cfe4e"), looks := false }, kinds := [], alts := [], laidByText := true, laidKinds := [.data], laidTests := true, laidLooks := .later }
def StuckKnotsUptoCardSaid : Prop := Claim7.holds Tryz.pinned (.plain (OpenSpec.upto stuckKnotsSpec)) stuckKnotsUptoCard

/-- THE SECOND FORM's CARD OF 'stilelaw24.StuckWays'. -/
def stuckWaysUptoCard : Claim7 := { stood := { row := stuckWaysUptoRow, standIns := [], harness := (true, "14b4af768aa3e6a8dd3f17bcbe4400c6eab11aaff17ef5f81a71be15f13cfe4e"), looks := false }, kinds := [], alts := [], laidByText := true, laidKinds := [.data], laidTests := true, laidLooks := .later }
def StuckWaysUptoCardSaid : Prop := Claim7.holds Tryz.pinned (.plain (OpenSpec.upto stuckWaysSpec)) stuckWaysUptoCard

/-- THE SECOND FORM's CARD OF 'stilelaw24.StuckNoRing'. -/
def stuckNoRingUptoCard : Claim7 := { stood := { row := stuckNoRingUptoRow, standIns := [], harness := (true, "14b4af768aa3e6a8dd3f17bcbe4400c6eab11aaff17ef5f81a71be15f13cfe4e"), looks := false }, kinds := [], alts := [], laidByText := true, laidKinds := [.data], laidTests := true, laidLooks := .later }
def StuckNoRingUptoCardSaid : Prop := Claim7.holds Tryz.pinned (.plain (OpenSpec.upto stuckNoRingSpec)) stuckNoRingUptoCard

/-- THE SECOND FORM's CARD OF 'stilelaw24.StuckKnotted'. -/
def stuckKnottedUptoCard : Claim7 := { stood := { row := stuckKnottedUptoRow, standIns := [], harness := (true, "14b4af768aa3e6a8dd3f17bcbe4400c6eab11aaff17ef5f81a71be15f13cfe4e"), looks := false }, kinds := [], alts := [], laidByText := true, laidKinds := [.data], laidTests := true, laidLooks := .later }
def StuckKnottedUptoCardSaid : Prop := Claim7.holds Tryz.pinned (.plain (OpenSpec.upto stuckKnottedSpec)) stuckKnottedUptoCard

/-- THE SECOND FORM's CARD OF 'stilelaw24.StuckStays'. -/
def stuckStaysUptoCard : Claim7 := { stood := { row := stuckStaysUptoRow, standIns := [], harness := (true, "14b4af768aa3e6a8dd3f17bcbe4400c6eab11aaff17ef5f81a71be15f13cfe4e"), looks := false }, kinds := [], alts := [], laidByText := true, laidKinds := [.data], laidTests := true, laidLooks := .later }
def StuckStaysUptoCardSaid : Prop := Claim7.holds Tryz.pinned (.plain (OpenSpec.upto stuckStaysSpec)) stuckStaysUptoCard

/-- THE SECOND FORM's CARD OF 'stilelaw24.StuckTies'. -/
def stuckTiesUptoCard : Claim7 := { stood := { row := stuckTiesUptoRow, standIns := [], harness := (true, "14b4af768aa3e6a8dd3f17bcbe4400c6eab11aaff17ef5f81a71be15f13cfe4e"), looks := false }, kinds := [], alts := [], laidByText := true, laidKinds := [.data], laidTests := true, laidLooks := .later }
def StuckTiesUptoCardSaid : Prop := Claim7.holds Tryz.pinned (.plain (OpenSpec.upto stuckTiesSpec)) stuckTiesUptoCard

/-- THE SECOND FORM's CARD OF 'stilelaw24.StuckRing'. -/
def stuckRingUptoCard : Claim7 := { stood := { row := stuckRingUptoRow, standIns := [], harness := (true, "14b4af768aa3e6a8dd3f17bcbe4400c6eab11aaff17ef5f81a71be15f13cfe4e"), looks := false }, kinds := [], alts := [], laidByText := true, laidKinds := [.data], laidTests := true, laidLooks := .later }
def StuckRingUptoCardSaid : Prop := Claim7.holds Tryz.pinned (.plain (OpenSpec.upto stuckRingSpec)) stuckRingUptoCard

/-- THE SECOND FORM's CARD OF 'stilelaw24.StuckOwn'. -/
def stuckOwnUptoCard : Claim7 := { stood := { row := stuckOwnUptoRow, standIns := [], harness := (true, "14b4af768aa3e6a8dd3f17bcbe4400c6eab11aaff17ef5f81a71be15f13cfe4e"), looks := false }, kinds := [], alts := [], laidByText := true, laidKinds := [.data], laidTests := true, laidLooks := .later }
def StuckOwnUptoCardSaid : Prop := Claim7.holds Tryz.pinned (.plain (OpenSpec.upto stuckOwnSpec)) stuckOwnUptoCard
end Rows
end Go.Proofs.YtjopoheligmmoaaGreatDoor
