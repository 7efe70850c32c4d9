/- A schedule that is played on a new machine. -/
import Derived.Test.YtliabecchkolgaaGreatVlook
namespace Go.Proofs.YtliabecchkolgaaGreat
open Go Go.Abs Go.Proofs
set_option linter.unusedSimpArgs false
set_option linter.unusedVariables false
/-- The machine ahead of step i. -/
def atS (o : Obj) (l : List StepV) (i : Nat) : Mach := (l.take i).foldl (fun s x => (stepS o s x.kind x.core).1) (initM o)
abbrev doesS (o : Obj) (l : List StepV) (i : Nat) : Mach × DidS × Int := stepS o (atS o l i) (l.getD i default).kind (l.getD i default).core
theorem atS_zero (o : Obj) (l : List StepV) : atS o l 0 = initM o := rfl
theorem atS_next {o : Obj} {l : List StepV} {i : Nat} (h : i < l.length) : atS o l (i + 1) = (doesS o l i).1 := by
  rw [atS, List.take_succ_eq_append_getElem h, List.foldl_append]
  simp [doesS, atS, List.getD, h]
theorem atS_good {o : Obj} (ok : ObjOk o) (l : List StepV) : ∀ i, i ≤ l.length → Good o (atS o l i) ∧ (atS o l i).prints.length ≤ i
  | 0, _ => ⟨good_init ok, by simp [atS, initM]⟩
  | i + 1, h => by
    have h1 := atS_good ok l i (by omega)
    rw [atS_next (by omega)]
    exact ⟨h1.1.step ok _ _, Nat.le_trans (prints_step o (atS o l i) (l.getD i default).kind (l.getD i default).core) (Nat.succ_le_succ h1.2)⟩
def didsS (o : Obj) (l : List StepV) (n : Nat) : List AV := (List.range n).map fun i => (doesS o l i).2.1.av
def errsS (o : Obj) (l : List StepV) (n : Nat) : List AV := (List.range n).map fun i => i64 (doesS o l i).2.2
theorem didsS_next (o : Obj) (l : List StepV) (n : Nat) : didsS o l (n + 1) = didsS o l n ++ [(doesS o l n).2.1.av] := by simp [didsS, List.range_succ]
theorem errsS_next (o : Obj) (l : List StepV) (n : Nat) : errsS o l (n + 1) = errsS o l n ++ [i64 (doesS o l n).2.2] := by simp [errsS, List.range_succ]
@[simp] theorem fit_dids (k : Nat) (o : Obj) (l : List StepV) (n : Nat) : fitL k (didsS o l n) := by simp [didsS, fitL_map, fitA, fitL]
@[simp] theorem fit_errs (k : Nat) (o : Obj) (l : List StepV) (n : Nat) : fitL k (errsS o l n) := by simp [errsS, fitL_map, fitA]
theorem unforce3 {x y z : AV} {R : AV → Prop} (h : R (.tup [x, y, z])) : forceT [x, y, z] (fun l => R (.tup l)) := by rw [forceT_eq]; exact h
end Go.Proofs.YtliabecchkolgaaGreat
