/-
  DERIVED. GIVEN WITH THE SEED: THE CARDS: each row of YtekfmjjmihomlaaGreatDoorRows.lean that lists a variable, with what it lists TIED to the program's text (the seventh form; the later family's looks); each row that meets fmt, with fmt's text TOLD by the authors' own Lean function (tested against real Go, not proved from fmt's source: count such statements apart). THE CARD IS WHAT COUNTS. Prove the row's statement (the work); the ties are given (YtekfmjjmihomlaaGreatDoorTie.lean); close each card by the builder's one call (the guide's Derived/Test/ToyasCard.lean, 'card_holds'). Laid BY PROGRAM, IN A SANDBOX (cutbox-door.mjs). By AI agents, Wed Nov 11 2026. No macro, syntax, notation, axiom, sorry.
-/
import Derived.Test.YtekfmjjmihomlaaGreatDoorRows
import GoSem.ClaimSeven
namespace Go.Proofs.YtekfmjjmihomlaaGreatDoor
namespace Rows

/-- THE TIED CARD OF 'stilelaw14.DeadSame'. -/
def deadSameCard : Claim7 := { stood := { row := deadSameRow, standIns := [], harness := (true, "6e22ba4eb7a7bcb6e4693f596ce8721de2ddd458f0b49557468185f625108b49"), looks := false }, kinds := [], alts := [], laidByText := true, laidKinds := [.data], laidTests := true, laidLooks := .later }
def DeadSameCardSaid : Prop := Claim7.holds Tryz.pinned (.plain (OpenSpec.ofChange deadSameSpec)) deadSameCard

/-- THE SECOND FORM's CARD OF 'stilelaw14.DeadSame'. -/
def deadSameUptoCard : Claim7 := { stood := { row := deadSameUptoRow, standIns := [], harness := (true, "6e22ba4eb7a7bcb6e4693f596ce8721de2ddd458f0b49557468185f625108b49"), looks := false }, kinds := [], alts := [], laidByText := true, laidKinds := [.data], laidTests := true, laidLooks := .later }
def DeadSameUptoCardSaid : Prop := Claim7.holds Tryz.pinned (.plain (OpenSpec.upto deadSameSpec)) deadSameUptoCard
end Rows
end Go.Proofs.YtekfmjjmihomlaaGreatDoor
