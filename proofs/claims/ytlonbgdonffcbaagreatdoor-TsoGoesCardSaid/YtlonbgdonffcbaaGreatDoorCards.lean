/-
  DERIVED. GIVEN WITH THE SEED: THE CARDS: each row of YtlonbgdonffcbaaGreatDoorRows.lean that lists a variable, with what it lists TIED to the program's text (the seventh form; the later family's looks); each row that meets fmt, with fmt's text TOLD by the authors' own Lean function (tested against real Go, not proved from fmt's source: count such statements apart). THE CARD IS WHAT COUNTS. Prove the row's statement (the work); the ties are given (YtlonbgdonffcbaaGreatDoorTie.lean); close each card by the builder's one call (the guide's Derived/Test/ToyasCard.lean, 'card_holds'). Laid BY PROGRAM, IN A SANDBOX (cutbox-door.mjs). By AI agents, Wed Nov 11 2026. No macro, syntax, notation, axiom, sorry.
-/
import Derived.Test.YtlonbgdonffcbaaGreatDoorRows
import GoSem.ClaimSeven
namespace Go.Proofs.YtlonbgdonffcbaaGreatDoor
namespace Rows

/-- THE TIED CARD OF 'stilelaw20.TsoClosed'. -/
def tsoClosedCard : Claim7 := { stood := { row := tsoClosedRow, standIns := [], harness := (true, "d4ad994dce242371731b714917e4b718e5faa8c908ab88b1ad48a85915cf5659"), looks := false }, kinds := [], alts := [], laidByText := true, laidKinds := [.data, .data, .data], laidTests := true, laidLooks := .later }
def TsoClosedCardSaid : Prop := Claim7.holds Tryz.pinned (.plain (OpenSpec.ofChange tsoClosedSpec)) tsoClosedCard

/-- THE TIED CARD OF 'stilelaw20.TsoDeeper'. -/
def tsoDeeperCard : Claim7 := { stood := { row := tsoDeeperRow, standIns := [], harness := (true, "d4ad994dce242371731b714917e4b718e5faa8c908ab88b1ad48a85915cf5659"), looks := false }, kinds := [], alts := [], laidByText := true, laidKinds := [.data, .data, .data], laidTests := true, laidLooks := .later }
def TsoDeeperCardSaid : Prop := Claim7.holds Tryz.pinned (.plain (OpenSpec.ofChange tsoDeeperSpec)) tsoDeeperCard

/-- THE TIED CARD OF 'stilelaw20.TsoOne'. -/
def tsoOneCard : Claim7 := { stood := { row := tsoOneRow, standIns := [], harness := (true, "d4ad994dce242371731b714917e4b718e5faa8c908ab88b1ad48a85915cf5659"), looks := false }, kinds := [], alts := [], laidByText := true, laidKinds := [.data, .data, .data], laidTests := true, laidLooks := .later }
def TsoOneCardSaid : Prop := Claim7.holds Tryz.pinned (.plain (OpenSpec.ofChange tsoOneSpec)) tsoOneCard

/-- THE TIED CARD OF 'stilelaw20.TsoGoes'. -/
def tsoGoesCard : Claim7 := { stood := { row := tsoGoesRow, standIns := [], harness := (true, "d4ad994dce242371731b714917e4b718e5faa8c908ab88b1ad48a85915cf5659"), looks := false }, kinds := [], alts := [], laidByText := true, laidKinds := [.data, .data, .data], laidTests := true, laidLooks := .later }
def TsoGoesCardSaid : Prop := Claim7.holds Tryz.pinned (.plain (OpenSpec.ofChange tsoGoesSpec)) tsoGoesCard

/-- THE SECOND FORM's CARD OF 'stilelaw20.TsoClosed'. -/
def tsoClosedUptoCard : Claim7 := { stood := { row := tsoClosedUptoRow, standIns := [], harness := (true, "d4ad994dce242371731b714917e4b718e5faa8c908ab88b1ad48a85915cf5659"), looks := false }, kinds := [], alts := [], laidByText := true, laidKinds := [.data, .data, .data], laidTests := true, laidLooks := .later }
def TsoClosedUptoCardSaid : Prop := Claim7.holds Tryz.pinned (.plain (OpenSpec.upto tsoClosedSpec)) tsoClosedUptoCard

/-- THE SECOND FORM's CARD OF 'stilelaw20.TsoDeeper'. -/
def tsoDeeperUptoCard : Claim7 := { stood := { row := tsoDeeperUptoRow, standIns := [], harness := (true, "d4ad994dce242371731b714917e4b718e5faa8c908ab88b1ad48a85915cf5659"), looks := false }, kinds := [], alts := [], laidByText := true, laidKinds := [.data, .data, .data], laidTests := true, laidLooks := .later }
def TsoDeeperUptoCardSaid : Prop := Claim7.holds Tryz.pinned (.plain (OpenSpec.upto tsoDeeperSpec)) tsoDeeperUptoCard

/-- THE SECOND FORM's CARD OF 'stilelaw20.TsoOne'. -/
def tsoOneUptoCard : Claim7 := { stood := { row := tsoOneUptoRow, standIns := [], harness := (true, "d4ad994dce242371731b714917e4b718e5faa8c908ab88b1ad48a85915cf5659"), looks := false }, kinds := [], alts := [], laidByText := true, laidKinds := [.data, .data, .data], laidTests := true, laidLooks := .later }
def TsoOneUptoCardSaid : Prop := Claim7.holds Tryz.pinned (.plain (OpenSpec.upto tsoOneSpec)) tsoOneUptoCard

/-- THE SECOND FORM's CARD OF 'stilelaw20.TsoGoes'. -/
def tsoGoesUptoCard : Claim7 := { stood := { row := tsoGoesUptoRow, standIns := [], harness := (true, "d4ad994dce242371731b714917e4b718e5faa8c908ab88b1ad48a85915cf5659"), looks := false }, kinds := [], alts := [], laidByText := true, laidKinds := [.data, .data, .data], laidTests := true, laidLooks := .later }
def TsoGoesUptoCardSaid : Prop := Claim7.holds Tryz.pinned (.plain (OpenSpec.upto tsoGoesSpec)) tsoGoesUptoCard
end Rows
end Go.Proofs.YtlonbgdonffcbaaGreatDoor
