/-
  DERIVED. GIVEN WITH THE SEED: THE CARDS: each row of YtmonponfppdgfaaGreatDoorRows.lean that lists a variable, with what it lists TIED to the program's text (the seventh form; the later family's looks); each row that meets fmt, with fmt's text TOLD by the authors' own Lean function (tested against real Go, not proved from fmt's source: count such statements apart). THE CARD IS WHAT COUNTS. Prove the row's statement (the work); the ties are given (YtmonponfppdgfaaGreatDoorTie.lean); close each card by the builder's one call (the guide's Derived/Test/ToyasCard.lean, 'card_holds'). Laid BY PROGRAM, IN A SANDBOX (cutbox-door.mjs). By AI agents, Wed Nov 11 2026. No macro, syntax, notation, axiom, sorry.
-/
import Derived.Test.YtmonponfppdgfaaGreatDoorRows
import GoSem.ClaimSeven
namespace Go.Proofs.YtmonponfppdgfaaGreatDoor
namespace Rows

/-- THE TIED CARD OF 'stilelaw14.DeadIdles'. -/
def deadIdlesCard : Claim7 := { stood := { row := deadIdlesRow, standIns := [], harness := (true, "12af8c7818b0501ec9e10285ad2d8f59b85aa667e4dfad6624519679bdff7faf"), looks := false }, kinds := [], alts := [], laidByText := true, laidKinds := [.data], laidTests := true, laidLooks := .later }
def DeadIdlesCardSaid : Prop := Claim7.holds Tryz.pinned (.plain (OpenSpec.ofChange deadIdlesSpec)) deadIdlesCard

/-- THE TIED CARD OF 'stilelaw14.DeadSweeps'. -/
def deadSweepsCard : Claim7 := { stood := { row := deadSweepsRow, standIns := [], harness := (true, "12af8c7818b0501ec9e10285ad2d8f59b85aa667e4dfad6624519679bdff7faf"), looks := false }, kinds := [], alts := [], laidByText := true, laidKinds := [.data], laidTests := true, laidLooks := .later }
def DeadSweepsCardSaid : Prop := Claim7.holds Tryz.pinned (.plain (OpenSpec.ofChange deadSweepsSpec)) deadSweepsCard

/-- THE TIED CARD OF 'stilelaw14.DeadOwn'. -/
def deadOwnCard : Claim7 := { stood := { row := deadOwnRow, standIns := [], harness := (true, "12af8c7818b0501ec9e10285ad2d8f59b85aa667e4dfad6624519679bdff7faf"), looks := false }, kinds := [], alts := [], laidByText := true, laidKinds := [.data], laidTests := true, laidLooks := .later }
def DeadOwnCardSaid : Prop := Claim7.holds Tryz.pinned (.plain (OpenSpec.ofChange deadOwnSpec)) deadOwnCard

/-- THE TIED CARD OF 'stilelaw14.DeadLives'. -/
def deadLivesCard : Claim7 := { stood := { row := deadLivesRow, standIns := [], harness := (true, "12af8c7818b0501ec9e10285ad2d8f59b85aa667e4dfad6624519679bdff7faf"), looks := false }, kinds := [], alts := [], laidByText := true, laidKinds := [.data], laidTests := true, laidLooks := .later }
def DeadLivesCardSaid : Prop := Claim7.holds Tryz.pinned (.plain (OpenSpec.ofChange deadLivesSpec)) deadLivesCard

/-- THE SECOND FORM's CARD OF 'stilelaw14.DeadIdles'. -/
def deadIdlesUptoCard : Claim7 := { stood := { row := deadIdlesUptoRow, standIns := [], harness := (true, "12af8c7818b0501ec9e10285ad2d8f59b85aa667e4dfad6624519679bdff7faf"), looks := false }, kinds := [], alts := [], laidByText := true, laidKinds := [.data], laidTests := true, laidLooks := .later }
def DeadIdlesUptoCardSaid : Prop := Claim7.holds Tryz.pinned (.plain (OpenSpec.upto deadIdlesSpec)) deadIdlesUptoCard

/-- THE SECOND FORM's CARD OF 'stilelaw14.DeadSweeps'. -/
def deadSweepsUptoCard : Claim7 := { stood := { row := deadSweepsUptoRow, standIns := [], harness := (true, "12af8c7818b0501ec9e10285ad2d8f59b85aa667e4dfad6624519679bdff7faf"), looks := false }, kinds := [], alts := [], laidByText := true, laidKinds := [.data], laidTests := true, laidLooks := .later }
def DeadSweepsUptoCardSaid : Prop := Claim7.holds Tryz.pinned (.plain (OpenSpec.upto deadSweepsSpec)) deadSweepsUptoCard

/-- THE SECOND FORM's CARD OF 'stilelaw14.DeadOwn'. -/
def deadOwnUptoCard : Claim7 := { stood := { row := deadOwnUptoRow, standIns := [], harness := (true, "12af8c7818b0501ec9e10285ad2d8f59b85aa667e4dfad6624519679bdff7faf"), looks := false }, kinds := [], alts := [], laidByText := true, laidKinds := [.data], laidTests := true, laidLooks := .later }
def DeadOwnUptoCardSaid : Prop := Claim7.holds Tryz.pinned (.plain (OpenSpec.upto deadOwnSpec)) deadOwnUptoCard

/-- THE SECOND FORM's CARD OF 'stilelaw14.DeadLives'. -/
def deadLivesUptoCard : Claim7 := { stood := { row := deadLivesUptoRow, standIns := [], harness := (true, "12af8c7818b0501ec9e10285ad2d8f59b85aa667e4dfad6624519679bdff7faf"), looks := false }, kinds := [], alts := [], laidByText := true, laidKinds := [.data], laidTests := true, laidLooks := .later }
def DeadLivesUptoCardSaid : Prop := Claim7.holds Tryz.pinned (.plain (OpenSpec.upto deadLivesSpec)) deadLivesUptoCard
end Rows
end Go.Proofs.YtmonponfppdgfaaGreatDoor
