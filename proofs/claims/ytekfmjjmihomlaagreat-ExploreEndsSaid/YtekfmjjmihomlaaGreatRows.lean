/-
  No cell of these rows narrows 'for every input' (looked for: loops, veiled, ifaces, maps, wideKeys, modest, calm, conditions, laid).
  DERIVED. THE GIVEN ROWS OF THIS SEAT. 7 by the template 'for every input the law returns true; each argument reads behind the call as it read before'; 0 by the template 'total and deterministic' (their statements: YtekfmjjmihomlaaGreatTotals.lean).
  GIVEN WITH THE SEED: the statements are not yours to turn. If you find one false, say at which input.
  Laid BY PROGRAM, IN A SANDBOX (cutbox-rows.mjs): the forced cells as the released guide's own fill.sh prints them over the translation ee103e4a51e6317f… (all of the seat's roots in one cut). By AI agents, Wed Nov 11 2026. No macro, syntax, notation, axiom, sorry.
-/
import Derived.Test.YtekfmjjmihomlaaGreatChecked
import GoSem.Claim
import GoSem.ClaimJoined
import GoSem.ClaimMapViews
import Derived.JoinedTies
import Derived.KernelRfl
namespace Go.Proofs.YtekfmjjmihomlaaGreat
/- THE CELL 'sum', in the pinned program and in every row, IS THE sha256 OF THE DUMP (.gsa) THAT YtekfmjjmihomlaaGreatProg.lean LOADS. Nothing in Lean hashes anything: it is a label: what it is worth is what the hold of that sum in a sandbox is worth. -/
noncomputable def Tryz.pinned : Pinned := { name := "ytekfmjjmihomlaagreat", sum := "ee103e4a51e6317f5ade0182d62cdd299847c34cf4b0fcae4c86c5e88bbe5273", checked := Tryz.checked }
namespace Rows
def none {H : Type} : Left H := { results := [], args := [] }

/-- 'stilelaw08.ExploreEnds': WHATEVER THE INPUT: true; the input reads as it did. -/
def exploreEndsSpec : ChangeSpec := { name := "exploreEnds", fn := fun _ => fun
  | [d1, d2] => { results := [.lit (.bool true)], args := [d1, d2] }
  | _ => none }
def exploreEndsRow : OpenClaim := { program := "ytekfmjjmihomlaagreat", sum := "ee103e4a51e6317f5ade0182d62cdd299847c34cf4b0fcae4c86c5e88bbe5273", func := "stile/stilelaw08.ExploreEnds", spec := "exploreEnds", inPlace := ["internal/abi.NoEscape"], unfollowed := true, recurses := true, apart := false }
def ExploreEndsSaid : Prop := exploreEndsRow.holds Tryz.pinned (OpenSpec.ofChange exploreEndsSpec)

/-- ITS FALSE NEIGHBOUR: 'it returns false'. Refute it at one input. -/
def exploreEndsWrong : ChangeSpec := { name := "exploreEnds", fn := fun _ => fun
  | [d1, d2] => { results := [.lit (.bool false)], args := [d1, d2] }
  | _ => none }
def ExploreEndsWrongFalsely : Prop := exploreEndsRow.holds Tryz.pinned (OpenSpec.ofChange exploreEndsWrong)

/-- 'stilelaw08.ExploreCompares': WHATEVER THE INPUT: true; the input reads as it did. -/
def exploreComparesSpec : ChangeSpec := { name := "exploreCompares", fn := fun _ => fun
  | [d1, d2] => { results := [.lit (.bool true)], args := [d1, d2] }
  | _ => none }
def exploreComparesRow : OpenClaim := { program := "ytekfmjjmihomlaagreat", sum := "ee103e4a51e6317f5ade0182d62cdd299847c34cf4b0fcae4c86c5e88bbe5273", func := "stile/stilelaw08.ExploreCompares", spec := "exploreCompares", inPlace := ["internal/abi.NoEscape"], unfollowed := true, recurses := true, apart := false }
def ExploreComparesSaid : Prop := exploreComparesRow.holds Tryz.pinned (OpenSpec.ofChange exploreComparesSpec)

/-- ITS FALSE NEIGHBOUR: 'it returns false'. Refute it at one input. -/
def exploreComparesWrong : ChangeSpec := { name := "exploreCompares", fn := fun _ => fun
  | [d1, d2] => { results := [.lit (.bool false)], args := [d1, d2] }
  | _ => none }
def ExploreComparesWrongFalsely : Prop := exploreComparesRow.holds Tryz.pinned (OpenSpec.ofChange exploreComparesWrong)

/-- 'stilelaw08.ExploreEnough': WHATEVER THE INPUT: true; the input reads as it did. -/
def exploreEnoughSpec : ChangeSpec := { name := "exploreEnough", fn := fun _ => fun
  | [d1, d2] => { results := [.lit (.bool true)], args := [d1, d2] }
  | _ => none }
def exploreEnoughRow : OpenClaim := { program := "ytekfmjjmihomlaagreat", sum := "ee103e4a51e6317f5ade0182d62cdd299847c34cf4b0fcae4c86c5e88bbe5273", func := "stile/stilelaw08.ExploreEnough", spec := "exploreEnough", inPlace := ["internal/abi.NoEscape"], unfollowed := true, recurses := true, apart := false }
def ExploreEnoughSaid : Prop := exploreEnoughRow.holds Tryz.pinned (OpenSpec.ofChange exploreEnoughSpec)

/-- ITS FALSE NEIGHBOUR: 'it returns false'. Refute it at one input. -/
def exploreEnoughWrong : ChangeSpec := { name := "exploreEnough", fn := fun _ => fun
  | [d1, d2] => { results := [.lit (.bool false)], args := [d1, d2] }
  | _ => none }
def ExploreEnoughWrongFalsely : Prop := exploreEnoughRow.holds Tryz.pinned (OpenSpec.ofChange exploreEnoughWrong)

/-- 'stilelaw08.ExploreAlone': WHATEVER THE INPUT: true; the input reads as it did. -/
def exploreAloneSpec : ChangeSpec := { name := "exploreAlone", fn := fun _ => fun
  | [d1, d2] => { results := [.lit (.bool true)], args := [d1, d2] }
  | _ => none }
def exploreAloneRow : OpenClaim := { program := "ytekfmjjmihomlaagreat", sum := "ee103e4a51e6317f5ade0182d62cdd299847c34cf4b0fcae4c86c5e88bbe5273", func := "stile/stilelaw08.ExploreAlone", spec := "exploreAlone", inPlace := ["internal/abi.NoEscape"], unfollowed := true, recurses := true, apart := false }
def ExploreAloneSaid : Prop := exploreAloneRow.holds Tryz.pinned (OpenSpec.ofChange exploreAloneSpec)

/-- ITS FALSE NEIGHBOUR: 'it returns false'. Refute it at one input. -/
def exploreAloneWrong : ChangeSpec := { name := "exploreAlone", fn := fun _ => fun
  | [d1, d2] => { results := [.lit (.bool false)], args := [d1, d2] }
  | _ => none }
def ExploreAloneWrongFalsely : Prop := exploreAloneRow.holds Tryz.pinned (OpenSpec.ofChange exploreAloneWrong)

/-- 'stilelaw08.ExploreWays': WHATEVER THE INPUT: true; the input reads as it did. -/
def exploreWaysSpec : ChangeSpec := { name := "exploreWays", fn := fun _ => fun
  | [d1, d2, d3, d4] => { results := [.lit (.bool true)], args := [d1, d2, d3, d4] }
  | _ => none }
def exploreWaysRow : OpenClaim := { program := "ytekfmjjmihomlaagreat", sum := "ee103e4a51e6317f5ade0182d62cdd299847c34cf4b0fcae4c86c5e88bbe5273", func := "stile/stilelaw08.ExploreWays", spec := "exploreWays", inPlace := ["internal/abi.NoEscape"], unfollowed := true, recurses := true, apart := false }
def ExploreWaysSaid : Prop := exploreWaysRow.holds Tryz.pinned (OpenSpec.ofChange exploreWaysSpec)

/-- ITS FALSE NEIGHBOUR: 'it returns false'. Refute it at one input. -/
def exploreWaysWrong : ChangeSpec := { name := "exploreWays", fn := fun _ => fun
  | [d1, d2, d3, d4] => { results := [.lit (.bool false)], args := [d1, d2, d3, d4] }
  | _ => none }
def ExploreWaysWrongFalsely : Prop := exploreWaysRow.holds Tryz.pinned (OpenSpec.ofChange exploreWaysWrong)

/-- 'stilelaw08.ExploreClosed': WHATEVER THE INPUT: true; the input reads as it did. -/
def exploreClosedSpec : ChangeSpec := { name := "exploreClosed", fn := fun _ => fun
  | [d1, d2, d3] => { results := [.lit (.bool true)], args := [d1, d2, d3] }
  | _ => none }
def exploreClosedRow : OpenClaim := { program := "ytekfmjjmihomlaagreat", sum := "ee103e4a51e6317f5ade0182d62cdd299847c34cf4b0fcae4c86c5e88bbe5273", func := "stile/stilelaw08.ExploreClosed", spec := "exploreClosed", inPlace := ["internal/abi.NoEscape"], unfollowed := true, recurses := true, apart := false }
def ExploreClosedSaid : Prop := exploreClosedRow.holds Tryz.pinned (OpenSpec.ofChange exploreClosedSpec)

/-- ITS FALSE NEIGHBOUR: 'it returns false'. Refute it at one input. -/
def exploreClosedWrong : ChangeSpec := { name := "exploreClosed", fn := fun _ => fun
  | [d1, d2, d3] => { results := [.lit (.bool false)], args := [d1, d2, d3] }
  | _ => none }
def ExploreClosedWrongFalsely : Prop := exploreClosedRow.holds Tryz.pinned (OpenSpec.ofChange exploreClosedWrong)

/-- 'stilelaw08.ExploreGoes': WHATEVER THE INPUT: true; the input reads as it did. -/
def exploreGoesSpec : ChangeSpec := { name := "exploreGoes", fn := fun _ => fun
  | [d1, d2] => { results := [.lit (.bool true)], args := [d1, d2] }
  | _ => none }
def exploreGoesRow : OpenClaim := { program := "ytekfmjjmihomlaagreat", sum := "ee103e4a51e6317f5ade0182d62cdd299847c34cf4b0fcae4c86c5e88bbe5273", func := "stile/stilelaw08.ExploreGoes", spec := "exploreGoes", inPlace := ["internal/abi.NoEscape"], unfollowed := true, recurses := true, apart := false }
def ExploreGoesSaid : Prop := exploreGoesRow.holds Tryz.pinned (OpenSpec.ofChange exploreGoesSpec)

/-- ITS FALSE NEIGHBOUR: 'it returns false'. Refute it at one input. -/
def exploreGoesWrong : ChangeSpec := { name := "exploreGoes", fn := fun _ => fun
  | [d1, d2] => { results := [.lit (.bool false)], args := [d1, d2] }
  | _ => none }
def ExploreGoesWrongFalsely : Prop := exploreGoesRow.holds Tryz.pinned (OpenSpec.ofChange exploreGoesWrong)

/- THE SECOND FORM. 'bulk': how many values and letters a reading holds, each counted each time it is reached (what is shared counts as often as it is met; a slice's spare places count too). A statement '..UptoSaid' is the law's where the arguments, and the package variables that the reading takes, are together of bulk at most 1048576: NARROWER than '..Said'. Prove '..Said' where nothing that the law and all that it calls make is longer than what came in: it says more and counts as full. Else prove '..UptoSaid'. A law counts once. -/
mutual
def uptoBulk {H : Type} : DataW H → Nat
  | .lit (.string bytes) => bytes.length + 1
  | .lit _ => 1
  | .nil => 1
  | .ptr d => uptoBulk d + 1
  | .slice elems spare => uptoBulkAll elems + uptoBulkAll spare + 1
  | .agg parts => uptoBulkAll parts + 1
  | .iface _ d => uptoBulk d + 1
  | .map entries => uptoBulkEntries entries + 1
  | .held _ => 1
def uptoBulkAll {H : Type} : List (DataW H) → Nat
  | [] => 0
  | d :: r => uptoBulk d + uptoBulkAll r
def uptoBulkEntries {H : Type} : List (Lit × DataW H) → Nat
  | [] => 0
  | x :: r => uptoBulkEntry x + uptoBulkEntries r
def uptoBulkEntry {H : Type} : Lit × DataW H → Nat
  | (.string bytes, d) => bytes.length + uptoBulk d + 1
  | (_, d) => uptoBulk d + 1
 end
def uptoSmall : (H : Type) → List (DataW H) → Bool := fun _ ds => decide (uptoBulkAll ds ≤ 1048576)
def OpenSpec.upto (s : _root_.Go.ChangeSpec) : _root_.Go.OpenSpec := { _root_.Go.OpenSpec.ofChange s with cond := some uptoSmall }

/-- 'stilelaw08.ExploreEnds', WHERE WHAT IT READS IS OF BULK AT MOST 1048576: true; the input reads as it did. -/
def exploreEndsUptoRow : OpenClaim := { program := "ytekfmjjmihomlaagreat", sum := "ee103e4a51e6317f5ade0182d62cdd299847c34cf4b0fcae4c86c5e88bbe5273", func := "stile/stilelaw08.ExploreEnds", spec := "exploreEnds", inPlace := ["internal/abi.NoEscape"], unfollowed := true, recurses := true, apart := false, narrowed := true }
def ExploreEndsUptoSaid : Prop := exploreEndsUptoRow.holds Tryz.pinned (OpenSpec.upto exploreEndsSpec)

/-- 'stilelaw08.ExploreCompares', WHERE WHAT IT READS IS OF BULK AT MOST 1048576: true; the input reads as it did. -/
def exploreComparesUptoRow : OpenClaim := { program := "ytekfmjjmihomlaagreat", sum := "ee103e4a51e6317f5ade0182d62cdd299847c34cf4b0fcae4c86c5e88bbe5273", func := "stile/stilelaw08.ExploreCompares", spec := "exploreCompares", inPlace := ["internal/abi.NoEscape"], unfollowed := true, recurses := true, apart := false, narrowed := true }
def ExploreComparesUptoSaid : Prop := exploreComparesUptoRow.holds Tryz.pinned (OpenSpec.upto exploreComparesSpec)

/-- 'stilelaw08.ExploreEnough', WHERE WHAT IT READS IS OF BULK AT MOST 1048576: true; the input reads as it did. -/
def exploreEnoughUptoRow : OpenClaim := { program := "ytekfmjjmihomlaagreat", sum := "ee103e4a51e6317f5ade0182d62cdd299847c34cf4b0fcae4c86c5e88bbe5273", func := "stile/stilelaw08.ExploreEnough", spec := "exploreEnough", inPlace := ["internal/abi.NoEscape"], unfollowed := true, recurses := true, apart := false, narrowed := true }
def ExploreEnoughUptoSaid : Prop := exploreEnoughUptoRow.holds Tryz.pinned (OpenSpec.upto exploreEnoughSpec)

/-- 'stilelaw08.ExploreAlone', WHERE WHAT IT READS IS OF BULK AT MOST 1048576: true; the input reads as it did. -/
def exploreAloneUptoRow : OpenClaim := { program := "ytekfmjjmihomlaagreat", sum := "ee103e4a51e6317f5ade0182d62cdd299847c34cf4b0fcae4c86c5e88bbe5273", func := "stile/stilelaw08.ExploreAlone", spec := "exploreAlone", inPlace := ["internal/abi.NoEscape"], unfollowed := true, recurses := true, apart := false, narrowed := true }
def ExploreAloneUptoSaid : Prop := exploreAloneUptoRow.holds Tryz.pinned (OpenSpec.upto exploreAloneSpec)

/-- 'stilelaw08.ExploreWays', WHERE WHAT IT READS IS OF BULK AT MOST 1048576: true; the input reads as it did. -/
def exploreWaysUptoRow : OpenClaim := { program := "ytekfmjjmihomlaagreat", sum := "ee103e4a51e6317f5ade0182d62cdd299847c34cf4b0fcae4c86c5e88bbe5273", func := "stile/stilelaw08.ExploreWays", spec := "exploreWays", inPlace := ["internal/abi.NoEscape"], unfollowed := true, recurses := true, apart := false, narrowed := true }
def ExploreWaysUptoSaid : Prop := exploreWaysUptoRow.holds Tryz.pinned (OpenSpec.upto exploreWaysSpec)

/-- 'stilelaw08.ExploreClosed', WHERE WHAT IT READS IS OF BULK AT MOST 1048576: true; the input reads as it did. -/
def exploreClosedUptoRow : OpenClaim := { program := "ytekfmjjmihomlaagreat", sum := "ee103e4a51e6317f5ade0182d62cdd299847c34cf4b0fcae4c86c5e88bbe5273", func := "stile/stilelaw08.ExploreClosed", spec := "exploreClosed", inPlace := ["internal/abi.NoEscape"], unfollowed := true, recurses := true, apart := false, narrowed := true }
def ExploreClosedUptoSaid : Prop := exploreClosedUptoRow.holds Tryz.pinned (OpenSpec.upto exploreClosedSpec)

/-- 'stilelaw08.ExploreGoes', WHERE WHAT IT READS IS OF BULK AT MOST 1048576: true; the input reads as it did. -/
def exploreGoesUptoRow : OpenClaim := { program := "ytekfmjjmihomlaagreat", sum := "ee103e4a51e6317f5ade0182d62cdd299847c34cf4b0fcae4c86c5e88bbe5273", func := "stile/stilelaw08.ExploreGoes", spec := "exploreGoes", inPlace := ["internal/abi.NoEscape"], unfollowed := true, recurses := true, apart := false, narrowed := true }
def ExploreGoesUptoSaid : Prop := exploreGoesUptoRow.holds Tryz.pinned (OpenSpec.upto exploreGoesSpec)

end Rows
end Go.Proofs.YtekfmjjmihomlaaGreat
