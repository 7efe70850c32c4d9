/- Whatever the order in which events are done, what they see then, and the order of the writers, is an execution that is plain, if each thread's order is kept: for every execution and every list of choices. No conditions. -/
import Derived.Test.YtncllkpekbapjaaOw
import Derived.Test.YtncllkpekbapjaaQf
namespace Go.Proofs.Ytncllkpekbapjaa
open Go Go.Abs Go.Proofs Go.RowKit Go.ChangeShapes Go.WideShapes Go.ChangeAt
set_option linter.unusedSimpArgs false
set_option linter.unusedVariables false
set_option maxRecDepth 100000 in
theorem orderDone_lifted (os : Os) (started : os.Started) (H : Type) (enc : TypeId × Value → H) :
    ReturnsInHanded {} Try.checked os 8 .any (Rows.orderDoneSpec.pre6 enc Try.prog Try.f8 Rows.orderDoneRow.domain false) (Rows.orderDoneSpec.post enc Try.prog Try.f8 false true false false) := by
  refine returnsInHanded_of_change_sized (C := Try.checked) own started (by kernel_rfl) Try.func8
    (ChangeSpec.witness6 (enc := enc) (C := Try.checked) false ⟨#[], #[.agg #[.slice none 0 0, .slice none 0 0, .slice none 0 0, .slice none 0 0], .slice none 0 0], []⟩ 8 (by kernel_rfl) (by kernel_rfl) (by kernel_rfl) (by kernel_rfl)) ?_
  intro W base args ds gs before hval hW _ hr _
  refine law_contract (ts := [27, 24]) (tb := 4) laidOut (by kernel_rfl) rfl Try.underlying4 (by kernel_rfl) (fun ds h => ?_) (fun t ht => ?_)
    (opensAll_cons (ag := true) (by kernel_rfl) opens_exec (fun h => by cases h) (opensAll_cons (ag := false) (by kernel_rfl) (opens_ints Try.underlying24 Try.underlying3 (by kernel_rfl) (by kernel_rfl)) (fun _ _ _ => rfl) opensAll_nil))
    (fun a h => ?_) hval hW hr
  · match ds, h with
    | [d0, d1], _ => rfl
  · have : ∀ t ∈ [27, 24], Try.prog.readableRec t = true ∧ t < Try.prog.types.size := by
      simp only [List.forall_mem_cons]
      refine ⟨⟨by kernel_rfl, of_decide_eq_true (by kernel_rfl)⟩, ⟨by kernel_rfl, of_decide_eq_true (by kernel_rfl)⟩, by simp⟩
    exact this t ht
  · exact odone_pure a.1 h.1 a.2.1 h.2.1.1 h.2.1.2
theorem orderDone_holds : Rows.OrderDoneSaid :=
  OpenClaim.holds_of_wide 8 Try.f8 rfl rfl rfl rfl rfl rfl rfl ⟨rfl, rfl, rfl, rfl, rfl⟩ rfl rfl rfl rfl rfl (by kernel_rfl) Try.func8 (by kernel_rfl)
    (of_decide_eq_true (by kernel_rfl)) (by unfold Func.isWrapper; first | (rw [if_pos (by decide +kernel)]; kernel_rfl) | (rw [if_neg (by decide +kernel)]; exact ⟨rfl, rfl⟩))
    (fun os started H enc _ => orderDone_lifted os started H enc)
end Go.Proofs.Ytncllkpekbapjaa
