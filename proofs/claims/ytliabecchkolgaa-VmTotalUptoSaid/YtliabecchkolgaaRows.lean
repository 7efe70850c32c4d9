/-
  No cell of these rows narrows 'for every input' (looked for: loops, veiled, ifaces, maps, wideKeys, modest, calm, conditions, laid).
  DERIVED. THE GIVEN ROWS OF THIS SEAT. 9 by the template 'for every input the law returns true; each argument reads behind the call as it read before'; 0 by the template 'total and deterministic' (their statements: YtliabecchkolgaaTotals.lean).
  GIVEN WITH THE SEED: the statements are not yours to turn. If you find one false, say at which input.
  Laid BY PROGRAM, IN A SANDBOX (cutbox-rows.mjs): the forced cells as the released guide's own fill.sh prints them over the translation 1d957ea5b16ea2ce… (all of the seat's roots in one cut). By AI agents, Wed Nov 11 2026. No macro, syntax, notation, axiom, sorry.
-/
import Derived.Test.YtliabecchkolgaaChecked
import GoSem.Claim
import GoSem.ClaimJoined
import GoSem.ClaimMapViews
import Derived.JoinedTies
import Derived.KernelRfl
namespace Go.Proofs.Ytliabecchkolgaa
/- THE CELL 'sum', in the pinned program and in every row, IS THE sha256 OF THE DUMP (.gsa) THAT YtliabecchkolgaaProg.lean LOADS. Nothing in Lean hashes anything: it is a label: what it is worth is what the hold of that sum in a sandbox is worth. -/
noncomputable def Try.pinned : Pinned := { name := "ytliabecchkolgaa", sum := "1d957ea5b16ea2ce890cfdb47ad6f9871f76edcb97767e3bc4b873246b775dc2", checked := Try.checked }
namespace Rows
def none {H : Type} : Left H := { results := [], args := [] }

/-- 'stilelaw18.VmAtOnce': WHATEVER THE INPUT: true; the input reads as it did. -/
def vmAtOnceSpec : ChangeSpec := { name := "vmAtOnce", fn := fun _ => fun
  | [d1, d2] => { results := [.lit (.bool true)], args := [d1, d2] }
  | _ => none }
def vmAtOnceRow : OpenClaim := { program := "ytliabecchkolgaa", sum := "1d957ea5b16ea2ce890cfdb47ad6f9871f76edcb97767e3bc4b873246b775dc2", func := "stile/stilelaw18.VmAtOnce", spec := "vmAtOnce", unfollowed := true, recurses := true, apart := false }
def VmAtOnceSaid : Prop := vmAtOnceRow.holds Try.pinned (OpenSpec.ofChange vmAtOnceSpec)

/-- ITS FALSE NEIGHBOUR: 'it returns false'. Refute it at one input. -/
def vmAtOnceWrong : ChangeSpec := { name := "vmAtOnce", fn := fun _ => fun
  | [d1, d2] => { results := [.lit (.bool false)], args := [d1, d2] }
  | _ => none }
def VmAtOnceWrongFalsely : Prop := vmAtOnceRow.holds Try.pinned (OpenSpec.ofChange vmAtOnceWrong)

/-- 'stilelaw18.VmOrder': WHATEVER THE INPUT: true; the input reads as it did. -/
def vmOrderSpec : ChangeSpec := { name := "vmOrder", fn := fun _ => fun
  | [d1, d2] => { results := [.lit (.bool true)], args := [d1, d2] }
  | _ => none }
def vmOrderRow : OpenClaim := { program := "ytliabecchkolgaa", sum := "1d957ea5b16ea2ce890cfdb47ad6f9871f76edcb97767e3bc4b873246b775dc2", func := "stile/stilelaw18.VmOrder", spec := "vmOrder", unfollowed := true, recurses := true, apart := false }
def VmOrderSaid : Prop := vmOrderRow.holds Try.pinned (OpenSpec.ofChange vmOrderSpec)

/-- ITS FALSE NEIGHBOUR: 'it returns false'. Refute it at one input. -/
def vmOrderWrong : ChangeSpec := { name := "vmOrder", fn := fun _ => fun
  | [d1, d2] => { results := [.lit (.bool false)], args := [d1, d2] }
  | _ => none }
def VmOrderWrongFalsely : Prop := vmOrderRow.holds Try.pinned (OpenSpec.ofChange vmOrderWrong)

/-- 'stilelaw18.VmFifo': WHATEVER THE INPUT: true; the input reads as it did. -/
def vmFifoSpec : ChangeSpec := { name := "vmFifo", fn := fun _ => fun
  | [d1, d2] => { results := [.lit (.bool true)], args := [d1, d2] }
  | _ => none }
def vmFifoRow : OpenClaim := { program := "ytliabecchkolgaa", sum := "1d957ea5b16ea2ce890cfdb47ad6f9871f76edcb97767e3bc4b873246b775dc2", func := "stile/stilelaw18.VmFifo", spec := "vmFifo", unfollowed := true, recurses := true, apart := false }
def VmFifoSaid : Prop := vmFifoRow.holds Try.pinned (OpenSpec.ofChange vmFifoSpec)

/-- ITS FALSE NEIGHBOUR: 'it returns false'. Refute it at one input. -/
def vmFifoWrong : ChangeSpec := { name := "vmFifo", fn := fun _ => fun
  | [d1, d2] => { results := [.lit (.bool false)], args := [d1, d2] }
  | _ => none }
def VmFifoWrongFalsely : Prop := vmFifoRow.holds Try.pinned (OpenSpec.ofChange vmFifoWrong)

/-- 'stilelaw18.VmPlays': WHATEVER THE INPUT: true; the input reads as it did. -/
def vmPlaysSpec : ChangeSpec := { name := "vmPlays", fn := fun _ => fun
  | [d1, d2] => { results := [.lit (.bool true)], args := [d1, d2] }
  | _ => none }
def vmPlaysRow : OpenClaim := { program := "ytliabecchkolgaa", sum := "1d957ea5b16ea2ce890cfdb47ad6f9871f76edcb97767e3bc4b873246b775dc2", func := "stile/stilelaw18.VmPlays", spec := "vmPlays", unfollowed := true, recurses := true, apart := false }
def VmPlaysSaid : Prop := vmPlaysRow.holds Try.pinned (OpenSpec.ofChange vmPlaysSpec)

/-- ITS FALSE NEIGHBOUR: 'it returns false'. Refute it at one input. -/
def vmPlaysWrong : ChangeSpec := { name := "vmPlays", fn := fun _ => fun
  | [d1, d2] => { results := [.lit (.bool false)], args := [d1, d2] }
  | _ => none }
def VmPlaysWrongFalsely : Prop := vmPlaysRow.holds Try.pinned (OpenSpec.ofChange vmPlaysWrong)

/-- 'stilelaw18.VmLocal': WHATEVER THE INPUT: true; the input reads as it did. -/
def vmLocalSpec : ChangeSpec := { name := "vmLocal", fn := fun _ => fun
  | [d1, d2] => { results := [.lit (.bool true)], args := [d1, d2] }
  | _ => none }
def vmLocalRow : OpenClaim := { program := "ytliabecchkolgaa", sum := "1d957ea5b16ea2ce890cfdb47ad6f9871f76edcb97767e3bc4b873246b775dc2", func := "stile/stilelaw18.VmLocal", spec := "vmLocal", unfollowed := true, recurses := true, apart := false }
def VmLocalSaid : Prop := vmLocalRow.holds Try.pinned (OpenSpec.ofChange vmLocalSpec)

/-- ITS FALSE NEIGHBOUR: 'it returns false'. Refute it at one input. -/
def vmLocalWrong : ChangeSpec := { name := "vmLocal", fn := fun _ => fun
  | [d1, d2] => { results := [.lit (.bool false)], args := [d1, d2] }
  | _ => none }
def VmLocalWrongFalsely : Prop := vmLocalRow.holds Try.pinned (OpenSpec.ofChange vmLocalWrong)

/-- 'stilelaw18.VmForks': WHATEVER THE INPUT: true; the input reads as it did. -/
def vmForksSpec : ChangeSpec := { name := "vmForks", fn := fun _ => fun
  | [d1, d2, d3, d4] => { results := [.lit (.bool true)], args := [d1, d2, d3, d4] }
  | _ => none }
def vmForksRow : OpenClaim := { program := "ytliabecchkolgaa", sum := "1d957ea5b16ea2ce890cfdb47ad6f9871f76edcb97767e3bc4b873246b775dc2", func := "stile/stilelaw18.VmForks", spec := "vmForks", unfollowed := true, recurses := true, apart := false }
def VmForksSaid : Prop := vmForksRow.holds Try.pinned (OpenSpec.ofChange vmForksSpec)

/-- ITS FALSE NEIGHBOUR: 'it returns false'. Refute it at one input. -/
def vmForksWrong : ChangeSpec := { name := "vmForks", fn := fun _ => fun
  | [d1, d2, d3, d4] => { results := [.lit (.bool false)], args := [d1, d2, d3, d4] }
  | _ => none }
def VmForksWrongFalsely : Prop := vmForksRow.holds Try.pinned (OpenSpec.ofChange vmForksWrong)

/-- 'stilelaw18.VmOwn': WHATEVER THE INPUT: true; the input reads as it did. -/
def vmOwnSpec : ChangeSpec := { name := "vmOwn", fn := fun _ => fun
  | [d1, d2] => { results := [.lit (.bool true)], args := [d1, d2] }
  | _ => none }
def vmOwnRow : OpenClaim := { program := "ytliabecchkolgaa", sum := "1d957ea5b16ea2ce890cfdb47ad6f9871f76edcb97767e3bc4b873246b775dc2", func := "stile/stilelaw18.VmOwn", spec := "vmOwn", unfollowed := true, recurses := true, apart := false }
def VmOwnSaid : Prop := vmOwnRow.holds Try.pinned (OpenSpec.ofChange vmOwnSpec)

/-- ITS FALSE NEIGHBOUR: 'it returns false'. Refute it at one input. -/
def vmOwnWrong : ChangeSpec := { name := "vmOwn", fn := fun _ => fun
  | [d1, d2] => { results := [.lit (.bool false)], args := [d1, d2] }
  | _ => none }
def VmOwnWrongFalsely : Prop := vmOwnRow.holds Try.pinned (OpenSpec.ofChange vmOwnWrong)

/-- 'stilelaw18.VmNil': WHATEVER THE INPUT: true; the input reads as it did. -/
def vmNilSpec : ChangeSpec := { name := "vmNil", fn := fun _ => fun
  | [d1, d2] => { results := [.lit (.bool true)], args := [d1, d2] }
  | _ => none }
def vmNilRow : OpenClaim := { program := "ytliabecchkolgaa", sum := "1d957ea5b16ea2ce890cfdb47ad6f9871f76edcb97767e3bc4b873246b775dc2", func := "stile/stilelaw18.VmNil", spec := "vmNil", unfollowed := true, recurses := true, apart := false }
def VmNilSaid : Prop := vmNilRow.holds Try.pinned (OpenSpec.ofChange vmNilSpec)

/-- ITS FALSE NEIGHBOUR: 'it returns false'. Refute it at one input. -/
def vmNilWrong : ChangeSpec := { name := "vmNil", fn := fun _ => fun
  | [d1, d2] => { results := [.lit (.bool false)], args := [d1, d2] }
  | _ => none }
def VmNilWrongFalsely : Prop := vmNilRow.holds Try.pinned (OpenSpec.ofChange vmNilWrong)

/-- 'stilelaw18.VmTotal': WHATEVER THE INPUT: true; the input reads as it did. -/
def vmTotalSpec : ChangeSpec := { name := "vmTotal", fn := fun _ => fun
  | [d1, d2] => { results := [.lit (.bool true)], args := [d1, d2] }
  | _ => none }
def vmTotalRow : OpenClaim := { program := "ytliabecchkolgaa", sum := "1d957ea5b16ea2ce890cfdb47ad6f9871f76edcb97767e3bc4b873246b775dc2", func := "stile/stilelaw18.VmTotal", spec := "vmTotal", unfollowed := true, recurses := true, apart := false }
def VmTotalSaid : Prop := vmTotalRow.holds Try.pinned (OpenSpec.ofChange vmTotalSpec)

/-- ITS FALSE NEIGHBOUR: 'it returns false'. Refute it at one input. -/
def vmTotalWrong : ChangeSpec := { name := "vmTotal", fn := fun _ => fun
  | [d1, d2] => { results := [.lit (.bool false)], args := [d1, d2] }
  | _ => none }
def VmTotalWrongFalsely : Prop := vmTotalRow.holds Try.pinned (OpenSpec.ofChange vmTotalWrong)

/- THE SECOND FORM. 'bulk': how many values and letters a reading holds, each counted each time it is reached (what is shared counts as often as it is met; a slice's spare places count too). A statement '..UptoSaid' is the law's where the arguments, and the package variables that the reading takes, are together of bulk at most 1048576: NARROWER than '..Said'. Prove '..Said' where nothing that the law and all that it calls make is longer than what came in: it says more and counts as full. Else prove '..UptoSaid'. A law counts once. -/
mutual
def uptoBulk {H : Type} : DataW H → Nat
  | .lit (.string bytes) => bytes.length + 1
  | .lit _ => 1
  | .nil => 1
  | .ptr d => uptoBulk d + 1
  | .slice elems spare => uptoBulkAll elems + uptoBulkAll spare + 1
  | .agg parts => uptoBulkAll parts + 1
  | .iface _ d => uptoBulk d + 1
  | .map entries => uptoBulkEntries entries + 1
  | .held _ => 1
def uptoBulkAll {H : Type} : List (DataW H) → Nat
  | [] => 0
  | d :: r => uptoBulk d + uptoBulkAll r
def uptoBulkEntries {H : Type} : List (Lit × DataW H) → Nat
  | [] => 0
  | x :: r => uptoBulkEntry x + uptoBulkEntries r
def uptoBulkEntry {H : Type} : Lit × DataW H → Nat
  | (.string bytes, d) => bytes.length + uptoBulk d + 1
  | (_, d) => uptoBulk d + 1
 end
def uptoSmall : (H : Type) → List (DataW H) → Bool := fun _ ds => decide (uptoBulkAll ds ≤ 1048576)
def OpenSpec.upto (s : _root_.Go.ChangeSpec) : _root_.Go.OpenSpec := { _root_.Go.OpenSpec.ofChange s with cond := some uptoSmall }

/-- 'stilelaw18.VmAtOnce', WHERE WHAT IT READS IS OF BULK AT MOST 1048576: true; the input reads as it did. -/
def vmAtOnceUptoRow : OpenClaim := { program := "ytliabecchkolgaa", sum := "1d957ea5b16ea2ce890cfdb47ad6f9871f76edcb97767e3bc4b873246b775dc2", func := "stile/stilelaw18.VmAtOnce", spec := "vmAtOnce", unfollowed := true, recurses := true, apart := false, narrowed := true }
def VmAtOnceUptoSaid : Prop := vmAtOnceUptoRow.holds Try.pinned (OpenSpec.upto vmAtOnceSpec)

/-- 'stilelaw18.VmOrder', WHERE WHAT IT READS IS OF BULK AT MOST 1048576: true; the input reads as it did. -/
def vmOrderUptoRow : OpenClaim := { program := "ytliabecchkolgaa", sum := "1d957ea5b16ea2ce890cfdb47ad6f9871f76edcb97767e3bc4b873246b775dc2", func := "stile/stilelaw18.VmOrder", spec := "vmOrder", unfollowed := true, recurses := true, apart := false, narrowed := true }
def VmOrderUptoSaid : Prop := vmOrderUptoRow.holds Try.pinned (OpenSpec.upto vmOrderSpec)

/-- 'stilelaw18.VmFifo', WHERE WHAT IT READS IS OF BULK AT MOST 1048576: true; the input reads as it did. -/
def vmFifoUptoRow : OpenClaim := { program := "ytliabecchkolgaa", sum := "1d957ea5b16ea2ce890cfdb47ad6f9871f76edcb97767e3bc4b873246b775dc2", func := "stile/stilelaw18.VmFifo", spec := "vmFifo", unfollowed := true, recurses := true, apart := false, narrowed := true }
def VmFifoUptoSaid : Prop := vmFifoUptoRow.holds Try.pinned (OpenSpec.upto vmFifoSpec)

/-- 'stilelaw18.VmPlays', WHERE WHAT IT READS IS OF BULK AT MOST 1048576: true; the input reads as it did. -/
def vmPlaysUptoRow : OpenClaim := { program := "ytliabecchkolgaa", sum := "1d957ea5b16ea2ce890cfdb47ad6f9871f76edcb97767e3bc4b873246b775dc2", func := "stile/stilelaw18.VmPlays", spec := "vmPlays", unfollowed := true, recurses := true, apart := false, narrowed := true }
def VmPlaysUptoSaid : Prop := vmPlaysUptoRow.holds Try.pinned (OpenSpec.upto vmPlaysSpec)

/-- 'stilelaw18.VmLocal', WHERE WHAT IT READS IS OF BULK AT MOST 1048576: true; the input reads as it did. -/
def vmLocalUptoRow : OpenClaim := { program := "ytliabecchkolgaa", sum := "1d957ea5b16ea2ce890cfdb47ad6f9871f76edcb97767e3bc4b873246b775dc2", func := "stile/stilelaw18.VmLocal", spec := "vmLocal", unfollowed := true, recurses := true, apart := false, narrowed := true }
def VmLocalUptoSaid : Prop := vmLocalUptoRow.holds Try.pinned (OpenSpec.upto vmLocalSpec)

/-- 'stilelaw18.VmForks', WHERE WHAT IT READS IS OF BULK AT MOST 1048576: true; the input reads as it did. -/
def vmForksUptoRow : OpenClaim := { program := "ytliabecchkolgaa", sum := "1d957ea5b16ea2ce890cfdb47ad6f9871f76edcb97767e3bc4b873246b775dc2", func := "stile/stilelaw18.VmForks", spec := "vmForks", unfollowed := true, recurses := true, apart := false, narrowed := true }
def VmForksUptoSaid : Prop := vmForksUptoRow.holds Try.pinned (OpenSpec.upto vmForksSpec)

/-- 'stilelaw18.VmOwn', WHERE WHAT IT READS IS OF BULK AT MOST 1048576: true; the input reads as it did. -/
def vmOwnUptoRow : OpenClaim := { program := "ytliabecchkolgaa", sum := "1d957ea5b16ea2ce890cfdb47ad6f9871f76edcb97767e3bc4b873246b775dc2", func := "stile/stilelaw18.VmOwn", spec := "vmOwn", unfollowed := true, recurses := true, apart := false, narrowed := true }
def VmOwnUptoSaid : Prop := vmOwnUptoRow.holds Try.pinned (OpenSpec.upto vmOwnSpec)

/-- 'stilelaw18.VmNil', WHERE WHAT IT READS IS OF BULK AT MOST 1048576: true; the input reads as it did. -/
def vmNilUptoRow : OpenClaim := { program := "ytliabecchkolgaa", sum := "1d957ea5b16ea2ce890cfdb47ad6f9871f76edcb97767e3bc4b873246b775dc2", func := "stile/stilelaw18.VmNil", spec := "vmNil", unfollowed := true, recurses := true, apart := false, narrowed := true }
def VmNilUptoSaid : Prop := vmNilUptoRow.holds Try.pinned (OpenSpec.upto vmNilSpec)

/-- 'stilelaw18.VmTotal', WHERE WHAT IT READS IS OF BULK AT MOST 1048576: true; the input reads as it did. -/
def vmTotalUptoRow : OpenClaim := { program := "ytliabecchkolgaa", sum := "1d957ea5b16ea2ce890cfdb47ad6f9871f76edcb97767e3bc4b873246b775dc2", func := "stile/stilelaw18.VmTotal", spec := "vmTotal", unfollowed := true, recurses := true, apart := false, narrowed := true }
def VmTotalUptoSaid : Prop := vmTotalUptoRow.holds Try.pinned (OpenSpec.upto vmTotalSpec)

end Rows
end Go.Proofs.Ytliabecchkolgaa
