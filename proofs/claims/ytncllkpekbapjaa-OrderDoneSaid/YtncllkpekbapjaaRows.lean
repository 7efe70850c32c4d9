/-
  No cell of these rows narrows 'for every input' (looked for: loops, veiled, ifaces, maps, wideKeys, modest, calm, conditions, laid).
  DERIVED. THE GIVEN ROWS OF THIS SEAT. 6 by the template 'for every input the law returns true; each argument reads behind the call as it read before'; 0 by the template 'total and deterministic' (their statements: YtncllkpekbapjaaTotals.lean).
  GIVEN WITH THE SEED: the statements are not yours to turn. If you find one false, say at which input.
  Laid BY PROGRAM, IN A SANDBOX (cutbox-rows.mjs): the forced cells as the released guide's own fill.sh prints them over the translation 692e2fefea1355fe… (all of the seat's roots in one cut). By AI agents, Wed Nov 11 2026. No macro, syntax, notation, axiom, sorry.
-/
import Derived.Test.YtncllkpekbapjaaChecked
import GoSem.Claim
import GoSem.ClaimJoined
import GoSem.ClaimMapViews
import Derived.JoinedTies
import Derived.KernelRfl
namespace Go.Proofs.Ytncllkpekbapjaa
/- THE CELL 'sum', in the pinned program and in every row, IS THE sha256 OF THE DUMP (.gsa) THAT YtncllkpekbapjaaProg.lean LOADS. Nothing in Lean hashes anything: it is a label: what it is worth is what the hold of that sum in a sandbox is worth. -/
noncomputable def Try.pinned : Pinned := { name := "ytncllkpekbapjaa", sum := "692e2fefea1355fe648b49e00ab3c621c0b543f2dc3d7d26db75bf5bcfc776cf", checked := Try.checked }
namespace Rows
def none {H : Type} : Left H := { results := [], args := [] }

/-- 'stilelaw22.OrderChecks': WHATEVER THE INPUT: true; the input reads as it did. -/
def orderChecksSpec : ChangeSpec := { name := "orderChecks", fn := fun _ => fun
  | [d] => { results := [.lit (.bool true)], args := [d] }
  | _ => none }
def orderChecksRow : OpenClaim := { program := "ytncllkpekbapjaa", sum := "692e2fefea1355fe648b49e00ab3c621c0b543f2dc3d7d26db75bf5bcfc776cf", func := "stile/stilelaw22.OrderChecks", spec := "orderChecks", unfollowed := true, recurses := true, apart := false }
def OrderChecksSaid : Prop := orderChecksRow.holds Try.pinned (OpenSpec.ofChange orderChecksSpec)

/-- ITS FALSE NEIGHBOUR: 'it returns false'. Refute it at one input. -/
def orderChecksWrong : ChangeSpec := { name := "orderChecks", fn := fun _ => fun
  | [d] => { results := [.lit (.bool false)], args := [d] }
  | _ => none }
def OrderChecksWrongFalsely : Prop := orderChecksRow.holds Try.pinned (OpenSpec.ofChange orderChecksWrong)

/-- 'stilelaw22.OrderWithin': WHATEVER THE INPUT: true; the input reads as it did. -/
def orderWithinSpec : ChangeSpec := { name := "orderWithin", fn := fun _ => fun
  | [d] => { results := [.lit (.bool true)], args := [d] }
  | _ => none }
def orderWithinRow : OpenClaim := { program := "ytncllkpekbapjaa", sum := "692e2fefea1355fe648b49e00ab3c621c0b543f2dc3d7d26db75bf5bcfc776cf", func := "stile/stilelaw22.OrderWithin", spec := "orderWithin", unfollowed := true, recurses := true, apart := false }
def OrderWithinSaid : Prop := orderWithinRow.holds Try.pinned (OpenSpec.ofChange orderWithinSpec)

/-- ITS FALSE NEIGHBOUR: 'it returns false'. Refute it at one input. -/
def orderWithinWrong : ChangeSpec := { name := "orderWithin", fn := fun _ => fun
  | [d] => { results := [.lit (.bool false)], args := [d] }
  | _ => none }
def OrderWithinWrongFalsely : Prop := orderWithinRow.holds Try.pinned (OpenSpec.ofChange orderWithinWrong)

/-- 'stilelaw22.OrderFences': WHATEVER THE INPUT: true; the input reads as it did. -/
def orderFencesSpec : ChangeSpec := { name := "orderFences", fn := fun _ => fun
  | [d] => { results := [.lit (.bool true)], args := [d] }
  | _ => none }
def orderFencesRow : OpenClaim := { program := "ytncllkpekbapjaa", sum := "692e2fefea1355fe648b49e00ab3c621c0b543f2dc3d7d26db75bf5bcfc776cf", func := "stile/stilelaw22.OrderFences", spec := "orderFences", unfollowed := true, recurses := true, apart := false }
def OrderFencesSaid : Prop := orderFencesRow.holds Try.pinned (OpenSpec.ofChange orderFencesSpec)

/-- ITS FALSE NEIGHBOUR: 'it returns false'. Refute it at one input. -/
def orderFencesWrong : ChangeSpec := { name := "orderFences", fn := fun _ => fun
  | [d] => { results := [.lit (.bool false)], args := [d] }
  | _ => none }
def OrderFencesWrongFalsely : Prop := orderFencesRow.holds Try.pinned (OpenSpec.ofChange orderFencesWrong)

/-- 'stilelaw22.OrderLines': WHATEVER THE INPUT: true; the input reads as it did. -/
def orderLinesSpec : ChangeSpec := { name := "orderLines", fn := fun _ => fun
  | [d1, d2] => { results := [.lit (.bool true)], args := [d1, d2] }
  | _ => none }
def orderLinesRow : OpenClaim := { program := "ytncllkpekbapjaa", sum := "692e2fefea1355fe648b49e00ab3c621c0b543f2dc3d7d26db75bf5bcfc776cf", func := "stile/stilelaw22.OrderLines", spec := "orderLines", unfollowed := true, recurses := true, apart := false }
def OrderLinesSaid : Prop := orderLinesRow.holds Try.pinned (OpenSpec.ofChange orderLinesSpec)

/-- ITS FALSE NEIGHBOUR: 'it returns false'. Refute it at one input. -/
def orderLinesWrong : ChangeSpec := { name := "orderLines", fn := fun _ => fun
  | [d1, d2] => { results := [.lit (.bool false)], args := [d1, d2] }
  | _ => none }
def OrderLinesWrongFalsely : Prop := orderLinesRow.holds Try.pinned (OpenSpec.ofChange orderLinesWrong)

/-- 'stilelaw22.OrderLine': WHATEVER THE INPUT: true; the input reads as it did. -/
def orderLineSpec : ChangeSpec := { name := "orderLine", fn := fun _ => fun
  | [d] => { results := [.lit (.bool true)], args := [d] }
  | _ => none }
def orderLineRow : OpenClaim := { program := "ytncllkpekbapjaa", sum := "692e2fefea1355fe648b49e00ab3c621c0b543f2dc3d7d26db75bf5bcfc776cf", func := "stile/stilelaw22.OrderLine", spec := "orderLine", unfollowed := true, recurses := true, apart := false }
def OrderLineSaid : Prop := orderLineRow.holds Try.pinned (OpenSpec.ofChange orderLineSpec)

/-- ITS FALSE NEIGHBOUR: 'it returns false'. Refute it at one input. -/
def orderLineWrong : ChangeSpec := { name := "orderLine", fn := fun _ => fun
  | [d] => { results := [.lit (.bool false)], args := [d] }
  | _ => none }
def OrderLineWrongFalsely : Prop := orderLineRow.holds Try.pinned (OpenSpec.ofChange orderLineWrong)

/-- 'stilelaw22.OrderDone': WHATEVER THE INPUT: true; the input reads as it did. -/
def orderDoneSpec : ChangeSpec := { name := "orderDone", fn := fun _ => fun
  | [d1, d2] => { results := [.lit (.bool true)], args := [d1, d2] }
  | _ => none }
def orderDoneRow : OpenClaim := { program := "ytncllkpekbapjaa", sum := "692e2fefea1355fe648b49e00ab3c621c0b543f2dc3d7d26db75bf5bcfc776cf", func := "stile/stilelaw22.OrderDone", spec := "orderDone", unfollowed := true, recurses := true, apart := false }
def OrderDoneSaid : Prop := orderDoneRow.holds Try.pinned (OpenSpec.ofChange orderDoneSpec)

/-- ITS FALSE NEIGHBOUR: 'it returns false'. Refute it at one input. -/
def orderDoneWrong : ChangeSpec := { name := "orderDone", fn := fun _ => fun
  | [d1, d2] => { results := [.lit (.bool false)], args := [d1, d2] }
  | _ => none }
def OrderDoneWrongFalsely : Prop := orderDoneRow.holds Try.pinned (OpenSpec.ofChange orderDoneWrong)

/- THE SECOND FORM. 'bulk': how many values and letters a reading holds, each counted each time it is reached (what is shared counts as often as it is met; a slice's spare places count too). A statement '..UptoSaid' is the law's where the arguments, and the package variables that the reading takes, are together of bulk at most 1048576: NARROWER than '..Said'. Prove '..Said' where nothing that the law and all that it calls make is longer than what came in: it says more and counts as full. Else prove '..UptoSaid'. A law counts once. -/
mutual
def uptoBulk {H : Type} : DataW H → Nat
  | .lit (.string bytes) => bytes.length + 1
  | .lit _ => 1
  | .nil => 1
  | .ptr d => uptoBulk d + 1
  | .slice elems spare => uptoBulkAll elems + uptoBulkAll spare + 1
  | .agg parts => uptoBulkAll parts + 1
  | .iface _ d => uptoBulk d + 1
  | .map entries => uptoBulkEntries entries + 1
  | .held _ => 1
def uptoBulkAll {H : Type} : List (DataW H) → Nat
  | [] => 0
  | d :: r => uptoBulk d + uptoBulkAll r
def uptoBulkEntries {H : Type} : List (Lit × DataW H) → Nat
  | [] => 0
  | x :: r => uptoBulkEntry x + uptoBulkEntries r
def uptoBulkEntry {H : Type} : Lit × DataW H → Nat
  | (.string bytes, d) => bytes.length + uptoBulk d + 1
  | (_, d) => uptoBulk d + 1
 end
def uptoSmall : (H : Type) → List (DataW H) → Bool := fun _ ds => decide (uptoBulkAll ds ≤ 1048576)
def OpenSpec.upto (s : _root_.Go.ChangeSpec) : _root_.Go.OpenSpec := { _root_.Go.OpenSpec.ofChange s with cond := some uptoSmall }

/-- 'stilelaw22.OrderChecks', WHERE WHAT IT READS IS OF BULK AT MOST 1048576: true; the input reads as it did. -/
def orderChecksUptoRow : OpenClaim := { program := "ytncllkpekbapjaa", sum := "692e2fefea1355fe648b49e00ab3c621c0b543f2dc3d7d26db75bf5bcfc776cf", func := "stile/stilelaw22.OrderChecks", spec := "orderChecks", unfollowed := true, recurses := true, apart := false, narrowed := true }
def OrderChecksUptoSaid : Prop := orderChecksUptoRow.holds Try.pinned (OpenSpec.upto orderChecksSpec)

/-- 'stilelaw22.OrderWithin', WHERE WHAT IT READS IS OF BULK AT MOST 1048576: true; the input reads as it did. -/
def orderWithinUptoRow : OpenClaim := { program := "ytncllkpekbapjaa", sum := "692e2fefea1355fe648b49e00ab3c621c0b543f2dc3d7d26db75bf5bcfc776cf", func := "stile/stilelaw22.OrderWithin", spec := "orderWithin", unfollowed := true, recurses := true, apart := false, narrowed := true }
def OrderWithinUptoSaid : Prop := orderWithinUptoRow.holds Try.pinned (OpenSpec.upto orderWithinSpec)

/-- 'stilelaw22.OrderFences', WHERE WHAT IT READS IS OF BULK AT MOST 1048576: true; the input reads as it did. -/
def orderFencesUptoRow : OpenClaim := { program := "ytncllkpekbapjaa", sum := "692e2fefea1355fe648b49e00ab3c621c0b543f2dc3d7d26db75bf5bcfc776cf", func := "stile/stilelaw22.OrderFences", spec := "orderFences", unfollowed := true, recurses := true, apart := false, narrowed := true }
def OrderFencesUptoSaid : Prop := orderFencesUptoRow.holds Try.pinned (OpenSpec.upto orderFencesSpec)

/-- 'stilelaw22.OrderLines', WHERE WHAT IT READS IS OF BULK AT MOST 1048576: true; the input reads as it did. -/
def orderLinesUptoRow : OpenClaim := { program := "ytncllkpekbapjaa", sum := "692e2fefea1355fe648b49e00ab3c621c0b543f2dc3d7d26db75bf5bcfc776cf", func := "stile/stilelaw22.OrderLines", spec := "orderLines", unfollowed := true, recurses := true, apart := false, narrowed := true }
def OrderLinesUptoSaid : Prop := orderLinesUptoRow.holds Try.pinned (OpenSpec.upto orderLinesSpec)

/-- 'stilelaw22.OrderLine', WHERE WHAT IT READS IS OF BULK AT MOST 1048576: true; the input reads as it did. -/
def orderLineUptoRow : OpenClaim := { program := "ytncllkpekbapjaa", sum := "692e2fefea1355fe648b49e00ab3c621c0b543f2dc3d7d26db75bf5bcfc776cf", func := "stile/stilelaw22.OrderLine", spec := "orderLine", unfollowed := true, recurses := true, apart := false, narrowed := true }
def OrderLineUptoSaid : Prop := orderLineUptoRow.holds Try.pinned (OpenSpec.upto orderLineSpec)

/-- 'stilelaw22.OrderDone', WHERE WHAT IT READS IS OF BULK AT MOST 1048576: true; the input reads as it did. -/
def orderDoneUptoRow : OpenClaim := { program := "ytncllkpekbapjaa", sum := "692e2fefea1355fe648b49e00ab3c621c0b543f2dc3d7d26db75bf5bcfc776cf", func := "stile/stilelaw22.OrderDone", spec := "orderDone", unfollowed := true, recurses := true, apart := false, narrowed := true }
def OrderDoneUptoSaid : Prop := orderDoneUptoRow.holds Try.pinned (OpenSpec.upto orderDoneSpec)

end Rows
end Go.Proofs.Ytncllkpekbapjaa
