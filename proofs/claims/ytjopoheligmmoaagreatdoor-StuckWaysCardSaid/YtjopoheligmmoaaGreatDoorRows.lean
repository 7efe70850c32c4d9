/-
  NARROWER THAN 'FOR EVERY INPUT', by the rows' own cells (each row's printed sentence says how): StuckEdges: laid · StuckKnots: laid · StuckWays: laid · StuckNoRing: laid · StuckKnotted: laid · StuckStays: laid · StuckTies: laid · StuckRing: laid · StuckOwn: laid.
  DERIVED. THE GIVEN ROWS OF THIS SEAT. 9 by the template 'for every input the law returns true; each argument reads behind the call as it read before'; 0 by the template 'total and deterministic' (their statements: YtjopoheligmmoaaGreatDoorTotals.lean).
  GIVEN WITH THE SEED: the statements are not yours to turn. If you find one false, say at which input.
  Laid BY PROGRAM, IN A SANDBOX (cutbox-rows.mjs): the forced cells as the released guide's own fill.sh prints them over the translation fb24d0c0a79da4c0… (all of the seat's roots in one cut). By AI agents, Wed Nov 11 2026. No macro, syntax, notation, axiom, sorry.
-/
import Derived.Test.YtjopoheligmmoaaGreatDoorChecked
import GoSem.Claim
import GoSem.ClaimJoined
import GoSem.ClaimMapViews
import Derived.JoinedTies
import Derived.KernelRfl
namespace Go.Proofs.YtjopoheligmmoaaGreatDoor
/- THE CELL 'sum', in the pinned program and in every row, IS THE sha256 OF THE DUMP (.gsa) THAT YtjopoheligmmoaaGreatDoorProg.lean LOADS. Nothing in Lean hashes anything: it is a label: what it is worth is what the hold of that sum in a sandbox is worth. -/
noncomputable def Tryz.pinned : Pinned := { name := "ytjopoheligmmoaagreatdoor", sum := "fb24d0c0a79da4c004befbb08e6c07e54f58180dc3ca886207d43f39123acdaa", checked := Tryz.checked }
namespace Rows
def none {H : Type} : Left H := { results := [], args := [] }

/- WHAT THE LISTED PACKAGE-LEVEL VARIABLES READ AS WHEN THE CALL BEGINS. Each datum BY PROGRAM (the guide's laid-datum.mjs) off the statement by which the dump's own 'gosem.cut.vars' lays the variable. In a bare row this is a premise. The card (YtjopoheligmmoaaGreatDoorCards.lean) ties it to the program's text. -/
def laid_math_bits_deBruijn32tab {H : Type} : DataW H := .agg [.lit (.int .u8 0), .lit (.int .u8 1), .lit (.int .u8 28), .lit (.int .u8 2), .lit (.int .u8 29), .lit (.int .u8 14), .lit (.int .u8 24), .lit (.int .u8 3), .lit (.int .u8 30), .lit (.int .u8 22), .lit (.int .u8 20), .lit (.int .u8 15), .lit (.int .u8 25), .lit (.int .u8 17), .lit (.int .u8 4), .lit (.int .u8 8), .lit (.int .u8 31), .lit (.int .u8 27), .lit (.int .u8 13), .lit (.int .u8 23), .lit (.int .u8 21), .lit (.int .u8 19), .lit (.int .u8 16), .lit (.int .u8 7), .lit (.int .u8 26), .lit (.int .u8 12), .lit (.int .u8 18), .lit (.int .u8 6), .lit (.int .u8 11), .lit (.int .u8 5), .lit (.int .u8 10), .lit (.int .u8 9)]

/-- 'stilelaw24.StuckEdges': WHATEVER THE INPUT: true; the input reads as it did. -/
def stuckEdgesSpec : ChangeSpec := { name := "stuckEdges", fn := fun _ => fun
  | [d] => { results := [.lit (.bool true)], args := [d] }
  | _ => none }
def stuckEdgesRow : OpenClaim := { program := "ytjopoheligmmoaagreatdoor", sum := "fb24d0c0a79da4c004befbb08e6c07e54f58180dc3ca886207d43f39123acdaa", func := "stile/stilelaw24.StuckEdges", spec := "stuckEdges", inPlace := ["internal/abi.NoEscape"], unfollowed := true, recurses := true, named := ["math/bits.deBruijn32tab"], apart := false, laid := [("math/bits.deBruijn32tab", laid_math_bits_deBruijn32tab)] }
def StuckEdgesSaid : Prop := stuckEdgesRow.holds Tryz.pinned (OpenSpec.ofChange stuckEdgesSpec)

/-- ITS FALSE NEIGHBOUR: 'it returns false'. Refute it at one input. -/
def stuckEdgesWrong : ChangeSpec := { name := "stuckEdges", fn := fun _ => fun
  | [d] => { results := [.lit (.bool false)], args := [d] }
  | _ => none }
def StuckEdgesWrongFalsely : Prop := stuckEdgesRow.holds Tryz.pinned (OpenSpec.ofChange stuckEdgesWrong)

/-- 'stilelaw24.StuckKnots': WHATEVER THE INPUT: true; the input reads as it did. -/
def stuckKnotsSpec : ChangeSpec := { name := "stuckKnots", fn := fun _ => fun
  | [d1, d2] => { results := [.lit (.bool true)], args := [d1, d2] }
  | _ => none }
def stuckKnotsRow : OpenClaim := { program := "ytjopoheligmmoaagreatdoor", sum := "fb24d0c0a79da4c004befbb08e6c07e54f58180dc3ca886207d43f39123acdaa", func := "stile/stilelaw24.StuckKnots", spec := "stuckKnots", inPlace := ["internal/abi.NoEscape"], unfollowed := true, recurses := true, named := ["math/bits.deBruijn32tab"], apart := false, laid := [("math/bits.deBruijn32tab", laid_math_bits_deBruijn32tab)] }
def StuckKnotsSaid : Prop := stuckKnotsRow.holds Tryz.pinned (OpenSpec.ofChange stuckKnotsSpec)

/-- ITS FALSE NEIGHBOUR: 'it returns false'. Refute it at one input. -/
def stuckKnotsWrong : ChangeSpec := { name := "stuckKnots", fn := fun _ => fun
  | [d1, d2] => { results := [.lit (.bool false)], args := [d1, d2] }
  | _ => none }
def StuckKnotsWrongFalsely : Prop := stuckKnotsRow.holds Tryz.pinned (OpenSpec.ofChange stuckKnotsWrong)

/-- 'stilelaw24.StuckWays': WHATEVER THE INPUT: true; the input reads as it did. -/
def stuckWaysSpec : ChangeSpec := { name := "stuckWays", fn := fun _ => fun
  | [d1, d2] => { results := [.lit (.bool true)], args := [d1, d2] }
  | _ => none }
def stuckWaysRow : OpenClaim := { program := "ytjopoheligmmoaagreatdoor", sum := "fb24d0c0a79da4c004befbb08e6c07e54f58180dc3ca886207d43f39123acdaa", func := "stile/stilelaw24.StuckWays", spec := "stuckWays", inPlace := ["internal/abi.NoEscape"], unfollowed := true, recurses := true, named := ["math/bits.deBruijn32tab"], apart := false, laid := [("math/bits.deBruijn32tab", laid_math_bits_deBruijn32tab)] }
def StuckWaysSaid : Prop := stuckWaysRow.holds Tryz.pinned (OpenSpec.ofChange stuckWaysSpec)

/-- ITS FALSE NEIGHBOUR: 'it returns false'. Refute it at one input. -/
def stuckWaysWrong : ChangeSpec := { name := "stuckWays", fn := fun _ => fun
  | [d1, d2] => { results := [.lit (.bool false)], args := [d1, d2] }
  | _ => none }
def StuckWaysWrongFalsely : Prop := stuckWaysRow.holds Tryz.pinned (OpenSpec.ofChange stuckWaysWrong)

/-- 'stilelaw24.StuckNoRing': WHATEVER THE INPUT: true; the input reads as it did. -/
def stuckNoRingSpec : ChangeSpec := { name := "stuckNoRing", fn := fun _ => fun
  | [d1, d2, d3] => { results := [.lit (.bool true)], args := [d1, d2, d3] }
  | _ => none }
def stuckNoRingRow : OpenClaim := { program := "ytjopoheligmmoaagreatdoor", sum := "fb24d0c0a79da4c004befbb08e6c07e54f58180dc3ca886207d43f39123acdaa", func := "stile/stilelaw24.StuckNoRing", spec := "stuckNoRing", inPlace := ["internal/abi.NoEscape"], unfollowed := true, recurses := true, named := ["math/bits.deBruijn32tab"], apart := false, laid := [("math/bits.deBruijn32tab", laid_math_bits_deBruijn32tab)] }
def StuckNoRingSaid : Prop := stuckNoRingRow.holds Tryz.pinned (OpenSpec.ofChange stuckNoRingSpec)

/-- ITS FALSE NEIGHBOUR: 'it returns false'. Refute it at one input. -/
def stuckNoRingWrong : ChangeSpec := { name := "stuckNoRing", fn := fun _ => fun
  | [d1, d2, d3] => { results := [.lit (.bool false)], args := [d1, d2, d3] }
  | _ => none }
def StuckNoRingWrongFalsely : Prop := stuckNoRingRow.holds Tryz.pinned (OpenSpec.ofChange stuckNoRingWrong)

/-- 'stilelaw24.StuckKnotted': WHATEVER THE INPUT: true; the input reads as it did. -/
def stuckKnottedSpec : ChangeSpec := { name := "stuckKnotted", fn := fun _ => fun
  | [d1, d2, d3] => { results := [.lit (.bool true)], args := [d1, d2, d3] }
  | _ => none }
def stuckKnottedRow : OpenClaim := { program := "ytjopoheligmmoaagreatdoor", sum := "fb24d0c0a79da4c004befbb08e6c07e54f58180dc3ca886207d43f39123acdaa", func := "stile/stilelaw24.StuckKnotted", spec := "stuckKnotted", inPlace := ["internal/abi.NoEscape"], unfollowed := true, recurses := true, named := ["math/bits.deBruijn32tab"], apart := false, laid := [("math/bits.deBruijn32tab", laid_math_bits_deBruijn32tab)] }
def StuckKnottedSaid : Prop := stuckKnottedRow.holds Tryz.pinned (OpenSpec.ofChange stuckKnottedSpec)

/-- ITS FALSE NEIGHBOUR: 'it returns false'. Refute it at one input. -/
def stuckKnottedWrong : ChangeSpec := { name := "stuckKnotted", fn := fun _ => fun
  | [d1, d2, d3] => { results := [.lit (.bool false)], args := [d1, d2, d3] }
  | _ => none }
def StuckKnottedWrongFalsely : Prop := stuckKnottedRow.holds Tryz.pinned (OpenSpec.ofChange stuckKnottedWrong)

/-- 'stilelaw24.StuckStays': WHATEVER THE INPUT: true; the input reads as it did. -/
def stuckStaysSpec : ChangeSpec := { name := "stuckStays", fn := fun _ => fun
  | [d1, d2, d3] => { results := [.lit (.bool true)], args := [d1, d2, d3] }
  | _ => none }
def stuckStaysRow : OpenClaim := { program := "ytjopoheligmmoaagreatdoor", sum := "fb24d0c0a79da4c004befbb08e6c07e54f58180dc3ca886207d43f39123acdaa", func := "stile/stilelaw24.StuckStays", spec := "stuckStays", inPlace := ["internal/abi.NoEscape"], unfollowed := true, recurses := true, named := ["math/bits.deBruijn32tab"], apart := false, laid := [("math/bits.deBruijn32tab", laid_math_bits_deBruijn32tab)] }
def StuckStaysSaid : Prop := stuckStaysRow.holds Tryz.pinned (OpenSpec.ofChange stuckStaysSpec)

/-- ITS FALSE NEIGHBOUR: 'it returns false'. Refute it at one input. -/
def stuckStaysWrong : ChangeSpec := { name := "stuckStays", fn := fun _ => fun
  | [d1, d2, d3] => { results := [.lit (.bool false)], args := [d1, d2, d3] }
  | _ => none }
def StuckStaysWrongFalsely : Prop := stuckStaysRow.holds Tryz.pinned (OpenSpec.ofChange stuckStaysWrong)

/-- 'stilelaw24.StuckTies': WHATEVER THE INPUT: true; the input reads as it did. -/
def stuckTiesSpec : ChangeSpec := { name := "stuckTies", fn := fun _ => fun
  | [d1, d2] => { results := [.lit (.bool true)], args := [d1, d2] }
  | _ => none }
def stuckTiesRow : OpenClaim := { program := "ytjopoheligmmoaagreatdoor", sum := "fb24d0c0a79da4c004befbb08e6c07e54f58180dc3ca886207d43f39123acdaa", func := "stile/stilelaw24.StuckTies", spec := "stuckTies", inPlace := ["internal/abi.NoEscape"], unfollowed := true, recurses := true, named := ["math/bits.deBruijn32tab"], apart := false, laid := [("math/bits.deBruijn32tab", laid_math_bits_deBruijn32tab)] }
def StuckTiesSaid : Prop := stuckTiesRow.holds Tryz.pinned (OpenSpec.ofChange stuckTiesSpec)

/-- ITS FALSE NEIGHBOUR: 'it returns false'. Refute it at one input. -/
def stuckTiesWrong : ChangeSpec := { name := "stuckTies", fn := fun _ => fun
  | [d1, d2] => { results := [.lit (.bool false)], args := [d1, d2] }
  | _ => none }
def StuckTiesWrongFalsely : Prop := stuckTiesRow.holds Tryz.pinned (OpenSpec.ofChange stuckTiesWrong)

/-- 'stilelaw24.StuckRing': WHATEVER THE INPUT: true; the input reads as it did. -/
def stuckRingSpec : ChangeSpec := { name := "stuckRing", fn := fun _ => fun
  | [d] => { results := [.lit (.bool true)], args := [d] }
  | _ => none }
def stuckRingRow : OpenClaim := { program := "ytjopoheligmmoaagreatdoor", sum := "fb24d0c0a79da4c004befbb08e6c07e54f58180dc3ca886207d43f39123acdaa", func := "stile/stilelaw24.StuckRing", spec := "stuckRing", inPlace := ["internal/abi.NoEscape"], unfollowed := true, recurses := true, named := ["math/bits.deBruijn32tab"], apart := false, laid := [("math/bits.deBruijn32tab", laid_math_bits_deBruijn32tab)] }
def StuckRingSaid : Prop := stuckRingRow.holds Tryz.pinned (OpenSpec.ofChange stuckRingSpec)

/-- ITS FALSE NEIGHBOUR: 'it returns false'. Refute it at one input. -/
def stuckRingWrong : ChangeSpec := { name := "stuckRing", fn := fun _ => fun
  | [d] => { results := [.lit (.bool false)], args := [d] }
  | _ => none }
def StuckRingWrongFalsely : Prop := stuckRingRow.holds Tryz.pinned (OpenSpec.ofChange stuckRingWrong)

/-- 'stilelaw24.StuckOwn': WHATEVER THE INPUT: true; the input reads as it did. -/
def stuckOwnSpec : ChangeSpec := { name := "stuckOwn", fn := fun _ => fun
  | [d1, d2] => { results := [.lit (.bool true)], args := [d1, d2] }
  | _ => none }
def stuckOwnRow : OpenClaim := { program := "ytjopoheligmmoaagreatdoor", sum := "fb24d0c0a79da4c004befbb08e6c07e54f58180dc3ca886207d43f39123acdaa", func := "stile/stilelaw24.StuckOwn", spec := "stuckOwn", inPlace := ["internal/abi.NoEscape"], unfollowed := true, recurses := true, named := ["math/bits.deBruijn32tab"], apart := false, laid := [("math/bits.deBruijn32tab", laid_math_bits_deBruijn32tab)] }
def StuckOwnSaid : Prop := stuckOwnRow.holds Tryz.pinned (OpenSpec.ofChange stuckOwnSpec)

/-- ITS FALSE NEIGHBOUR: 'it returns false'. Refute it at one input. -/
def stuckOwnWrong : ChangeSpec := { name := "stuckOwn", fn := fun _ => fun
  | [d1, d2] => { results := [.lit (.bool false)], args := [d1, d2] }
  | _ => none }
def StuckOwnWrongFalsely : Prop := stuckOwnRow.holds Tryz.pinned (OpenSpec.ofChange stuckOwnWrong)

/- THE SECOND FORM. 'bulk': how many values and letters a reading holds, each counted each time it is reached (what is shared counts as often as it is met; a slice's spare places count too). A statement '..UptoSaid' is the law's where the arguments, and the package variables that the reading takes, are together of bulk at most 1048576: NARROWER than '..Said'. Prove '..Said' where nothing that the law and all that it calls make is longer than what came in: it says more and counts as full. Else prove '..UptoSaid'. A law counts once. -/
mutual
def uptoBulk {H : Type} : DataW H → Nat
  | .lit (.string bytes) => bytes.length + 1
  | .lit _ => 1
  | .nil => 1
  | .ptr d => uptoBulk d + 1
  | .slice elems spare => uptoBulkAll elems + uptoBulkAll spare + 1
  | .agg parts => uptoBulkAll parts + 1
  | .iface _ d => uptoBulk d + 1
  | .map entries => uptoBulkEntries entries + 1
  | .held _ => 1
def uptoBulkAll {H : Type} : List (DataW H) → Nat
  | [] => 0
  | d :: r => uptoBulk d + uptoBulkAll r
def uptoBulkEntries {H : Type} : List (Lit × DataW H) → Nat
  | [] => 0
  | x :: r => uptoBulkEntry x + uptoBulkEntries r
def uptoBulkEntry {H : Type} : Lit × DataW H → Nat
  | (.string bytes, d) => bytes.length + uptoBulk d + 1
  | (_, d) => uptoBulk d + 1
 end
def uptoSmall : (H : Type) → List (DataW H) → Bool := fun _ ds => decide (uptoBulkAll ds ≤ 1048576)
def OpenSpec.upto (s : _root_.Go.ChangeSpec) : _root_.Go.OpenSpec := { _root_.Go.OpenSpec.ofChange s with cond := some uptoSmall }

/-- 'stilelaw24.StuckEdges', WHERE WHAT IT READS IS OF BULK AT MOST 1048576: true; the input reads as it did. -/
def stuckEdgesUptoRow : OpenClaim := { program := "ytjopoheligmmoaagreatdoor", sum := "fb24d0c0a79da4c004befbb08e6c07e54f58180dc3ca886207d43f39123acdaa", func := "stile/stilelaw24.StuckEdges", spec := "stuckEdges", inPlace := ["internal/abi.NoEscape"], unfollowed := true, recurses := true, named := ["math/bits.deBruijn32tab"], apart := false, laid := [("math/bits.deBruijn32tab", laid_math_bits_deBruijn32tab)], narrowed := true }
def StuckEdgesUptoSaid : Prop := stuckEdgesUptoRow.holds Tryz.pinned (OpenSpec.upto stuckEdgesSpec)

/-- 'stilelaw24.StuckKnots', WHERE WHAT IT READS IS OF BULK AT MOST 1048576: true; the input reads as it did. -/
def stuckKnotsUptoRow : OpenClaim := { program := "ytjopoheligmmoaagreatdoor", sum := "fb24d0c0a79da4c004befbb08e6c07e54f58180dc3ca886207d43f39123acdaa", func := "stile/stilelaw24.StuckKnots", spec := "stuckKnots", inPlace := ["internal/abi.NoEscape"], unfollowed := true, recurses := true, named := ["math/bits.deBruijn32tab"], apart := false, laid := [("math/bits.deBruijn32tab", laid_math_bits_deBruijn32tab)], narrowed := true }
def StuckKnotsUptoSaid : Prop := stuckKnotsUptoRow.holds Tryz.pinned (OpenSpec.upto stuckKnotsSpec)

/-- 'stilelaw24.StuckWays', WHERE WHAT IT READS IS OF BULK AT MOST 1048576: true; the input reads as it did. -/
def stuckWaysUptoRow : OpenClaim := { program := "ytjopoheligmmoaagreatdoor", sum := "fb24d0c0a79da4c004befbb08e6c07e54f58180dc3ca886207d43f39123acdaa", func := "stile/stilelaw24.StuckWays", spec := "stuckWays", inPlace := ["internal/abi.NoEscape"], unfollowed := true, recurses := true, named := ["math/bits.deBruijn32tab"], apart := false, laid := [("math/bits.deBruijn32tab", laid_math_bits_deBruijn32tab)], narrowed := true }
def StuckWaysUptoSaid : Prop := stuckWaysUptoRow.holds Tryz.pinned (OpenSpec.upto stuckWaysSpec)

/-- 'stilelaw24.StuckNoRing', WHERE WHAT IT READS IS OF BULK AT MOST 1048576: true; the input reads as it did. -/
def stuckNoRingUptoRow : OpenClaim := { program := "ytjopoheligmmoaagreatdoor", sum := "fb24d0c0a79da4c004befbb08e6c07e54f58180dc3ca886207d43f39123acdaa", func := "stile/stilelaw24.StuckNoRing", spec := "stuckNoRing", inPlace := ["internal/abi.NoEscape"], unfollowed := true, recurses := true, named := ["math/bits.deBruijn32tab"], apart := false, laid := [("math/bits.deBruijn32tab", laid_math_bits_deBruijn32tab)], narrowed := true }
def StuckNoRingUptoSaid : Prop := stuckNoRingUptoRow.holds Tryz.pinned (OpenSpec.upto stuckNoRingSpec)

/-- 'stilelaw24.StuckKnotted', WHERE WHAT IT READS IS OF BULK AT MOST 1048576: true; the input reads as it did. -/
def stuckKnottedUptoRow : OpenClaim := { program := "ytjopoheligmmoaagreatdoor", sum := "fb24d0c0a79da4c004befbb08e6c07e54f58180dc3ca886207d43f39123acdaa", func := "stile/stilelaw24.StuckKnotted", spec := "stuckKnotted", inPlace := ["internal/abi.NoEscape"], unfollowed := true, recurses := true, named := ["math/bits.deBruijn32tab"], apart := false, laid := [("math/bits.deBruijn32tab", laid_math_bits_deBruijn32tab)], narrowed := true }
def StuckKnottedUptoSaid : Prop := stuckKnottedUptoRow.holds Tryz.pinned (OpenSpec.upto stuckKnottedSpec)

/-- 'stilelaw24.StuckStays', WHERE WHAT IT READS IS OF BULK AT MOST 1048576: true; the input reads as it did. -/
def stuckStaysUptoRow : OpenClaim := { program := "ytjopoheligmmoaagreatdoor", sum := "fb24d0c0a79da4c004befbb08e6c07e54f58180dc3ca886207d43f39123acdaa", func := "stile/stilelaw24.StuckStays", spec := "stuckStays", inPlace := ["internal/abi.NoEscape"], unfollowed := true, recurses := true, named := ["math/bits.deBruijn32tab"], apart := false, laid := [("math/bits.deBruijn32tab", laid_math_bits_deBruijn32tab)], narrowed := true }
def StuckStaysUptoSaid : Prop := stuckStaysUptoRow.holds Tryz.pinned (OpenSpec.upto stuckStaysSpec)

/-- 'stilelaw24.StuckTies', WHERE WHAT IT READS IS OF BULK AT MOST 1048576: true; the input reads as it did. -/
def stuckTiesUptoRow : OpenClaim := { program := "ytjopoheligmmoaagreatdoor", sum := "fb24d0c0a79da4c004befbb08e6c07e54f58180dc3ca886207d43f39123acdaa", func := "stile/stilelaw24.StuckTies", spec := "stuckTies", inPlace := ["internal/abi.NoEscape"], unfollowed := true, recurses := true, named := ["math/bits.deBruijn32tab"], apart := false, laid := [("math/bits.deBruijn32tab", laid_math_bits_deBruijn32tab)], narrowed := true }
def StuckTiesUptoSaid : Prop := stuckTiesUptoRow.holds Tryz.pinned (OpenSpec.upto stuckTiesSpec)

/-- 'stilelaw24.StuckRing', WHERE WHAT IT READS IS OF BULK AT MOST 1048576: true; the input reads as it did. -/
def stuckRingUptoRow : OpenClaim := { program := "ytjopoheligmmoaagreatdoor", sum := "fb24d0c0a79da4c004befbb08e6c07e54f58180dc3ca886207d43f39123acdaa", func := "stile/stilelaw24.StuckRing", spec := "stuckRing", inPlace := ["internal/abi.NoEscape"], unfollowed := true, recurses := true, named := ["math/bits.deBruijn32tab"], apart := false, laid := [("math/bits.deBruijn32tab", laid_math_bits_deBruijn32tab)], narrowed := true }
def StuckRingUptoSaid : Prop := stuckRingUptoRow.holds Tryz.pinned (OpenSpec.upto stuckRingSpec)

/-- 'stilelaw24.StuckOwn', WHERE WHAT IT READS IS OF BULK AT MOST 1048576: true; the input reads as it did. -/
def stuckOwnUptoRow : OpenClaim := { program := "ytjopoheligmmoaagreatdoor", sum := "fb24d0c0a79da4c004befbb08e6c07e54f58180dc3ca886207d43f39123acdaa", func := "stile/stilelaw24.StuckOwn", spec := "stuckOwn", inPlace := ["internal/abi.NoEscape"], unfollowed := true, recurses := true, named := ["math/bits.deBruijn32tab"], apart := false, laid := [("math/bits.deBruijn32tab", laid_math_bits_deBruijn32tab)], narrowed := true }
def StuckOwnUptoSaid : Prop := stuckOwnUptoRow.holds Tryz.pinned (OpenSpec.upto stuckOwnSpec)

end Rows
end Go.Proofs.YtjopoheligmmoaaGreatDoor
