/- What executions read as. -/
import Derived.Test.YtncllkpekbapjaaOa
import Derived.Test.YtncllkpekbapjaaAbsS
import Derived.Test.YtncllkpekbapjaaRows
namespace Go.Proofs.Ytncllkpekbapjaa
open Go Go.Abs Go.Proofs Go.RowKit Go.ChangeShapes Go.WideShapes Go.ChangeAt
set_option linter.unusedSimpArgs false
set_option linter.unusedVariables false
theorem own : ownKnob Try.prog.godebug = none := by kernel_rfl
theorem laidOut : laidOutB Try.prog = true := by kernel_rfl
theorem lit_wf64 {n : Int} (h : (Lit.int .i64 n).wf = true) : wf64 n := by
  simp only [Lit.wf, Bool.and_eq_true, decide_eq_true_eq] at h
  have e1 : IntKind.i64.min = -9223372036854775808 := by decide
  have e2 : IntKind.i64.max = 9223372036854775807 := by decide
  unfold wf64
  omega
theorem lit_wf8 {n : Int} (h : (Lit.int .u8 n).wf = true) : 0 ≤ n ∧ n < 256 := by
  simp only [Lit.wf, Bool.and_eq_true, decide_eq_true_eq] at h
  have e1 : IntKind.u8.min = 0 := by decide
  have e2 : IntKind.u8.max = 255 := by decide
  omega
theorem opens_deed : OpensC Try.prog 39 Deed.cells Deed.Wf := by
  refine OpensC.map (α := Int × Int × Int × Int × Int × Unit) (fun p => (⟨p.1, p.2.1, p.2.2.1, p.2.2.2.1, p.2.2.2.2.1⟩ : Deed))
    (opens_struct (k := 5) Try.underlying39 (by kernel_rfl)
      (opensF_cons (k := 1) rfl (by kernel_rfl) (opens_int Try.underlying37) (opensF_cons (k := 1) rfl (by kernel_rfl) (opens_int Try.underlying3) (opensF_cons (k := 1) rfl (by kernel_rfl) (opens_int Try.underlying3) (opensF_cons (k := 1) rfl (by kernel_rfl) (opens_int Try.underlying2) (opensF_cons (k := 1) rfl (by kernel_rfl) (opens_int Try.underlying2) opensF_nil)))))) ?_ ?_
  · intro a _; rfl
  · intro a h
    obtain ⟨h1, h2, h3, h4, h5, _⟩ := h
    exact ⟨lit_wf8 h1, lit_wf64 h2, lit_wf64 h3, lit_wf64 h4, lit_wf64 h5⟩
theorem opens_ints {t e : TypeId} (ht : Try.prog.underlying t = some (.slice e)) (he : Try.prog.underlying e = some (.int .i64)) (hsz : Try.prog.cellsOf e = 1) (hb : Try.prog.bytesOf e = 8) : OpensC Try.prog t (fun l : List Int => [imI l]) (fun l => (∀ x ∈ l, wf64 x) ∧ l.length * 8 ≤ 140737488351232) := by
  refine (opens_slice (ag := false) (sz := 1) (i64 0) ht hsz (by omega) (opens_int he) (fun _ => rfl) (fun _ _ => rfl) (fun _ => rfl)).map (fun l => l) (fun _ _ => rfl) ?_
  rintro l ⟨h1, h2⟩
  rw [hb] at h2
  exact ⟨fun x hx => lit_wf64 (h1 x hx), h2⟩
theorem opens_deeds : OpensC Try.prog 23 (fun l : List Deed => [.im 5 (Deed.av default) (l.map Deed.av)]) (fun l => (∀ x ∈ l, x.Wf) ∧ l.length * 40 ≤ 140737488351232) := by
  have hb : Try.prog.bytesOf 39 = 40 := by kernel_rfl
  refine (opens_slice (ag := true) (sz := 5) (Deed.av default) Try.underlying23 (by kernel_rfl) (by omega) opens_deed (fun _ => rfl) (fun _ _ => rfl) (fun h => by cases h)).map (fun l => l) (fun _ _ => rfl) ?_
  rintro l ⟨h1, h2⟩
  rw [hb] at h2
  exact ⟨h1, h2⟩
theorem opens_lists : OpensC Try.prog 25 (fun l : List (List Int) => [.im 1 (imI []) (l.map imI)]) (fun l => (∀ x ∈ l, (∀ v ∈ x, wf64 v) ∧ x.length * 8 ≤ 140737488351232) ∧ l.length * 24 ≤ 140737488351232) := by
  have hb : Try.prog.bytesOf 24 = 24 := by kernel_rfl
  refine (opens_slice (ag := false) (sz := 1) (imI []) Try.underlying25 (by kernel_rfl) (by omega) (opens_ints Try.underlying24 Try.underlying3 (by kernel_rfl) (by kernel_rfl)) (fun _ => rfl) (fun _ _ => rfl) (fun _ => rfl)).map (fun l => l) (fun _ _ => rfl) ?_
  rintro l ⟨h1, h2⟩
  rw [hb] at h2
  exact ⟨h1, h2⟩
theorem opens_exec : OpensC Try.prog 27 Exec.cells Exec.Wf := by
  refine OpensC.map (α := List Int × List Deed × List Int × List (List Int) × Unit) (fun p => (⟨p.1, p.2.1, p.2.2.1, p.2.2.2.1⟩ : Exec))
    (opens_struct (k := 4) Try.underlying27 (by kernel_rfl) (opensF_cons (k := 1) rfl (by kernel_rfl) (opens_ints Try.underlying22 Try.underlying2 (by kernel_rfl) (by kernel_rfl))
      (opensF_cons (k := 1) rfl (by kernel_rfl) opens_deeds (opensF_cons (k := 1) rfl (by kernel_rfl) (opens_ints Try.underlying24 Try.underlying3 (by kernel_rfl) (by kernel_rfl)) (opensF_cons (k := 1) rfl (by kernel_rfl) opens_lists opensF_nil))))) ?_ ?_
  · intro a _; rfl
  · intro a h
    obtain ⟨⟨h1, h2⟩, ⟨h3, h4⟩, ⟨h5, h6⟩, ⟨h7, h8⟩, _⟩ := h
    exact ⟨h1, h2, h3, h4, h5, h6, h7, h8⟩
end Go.Proofs.Ytncllkpekbapjaa
