/- Plain is what has a line; done in that line each reader sees what From says, and writers stand as After has them: for every execution. No conditions. -/
import Derived.Test.YtncllkpekbapjaaOw
import Derived.Test.YtncllkpekbapjaaQc
namespace Go.Proofs.Ytncllkpekbapjaa
open Go Go.Abs Go.Proofs Go.RowKit Go.ChangeShapes Go.WideShapes Go.ChangeAt
set_option linter.unusedSimpArgs false
set_option linter.unusedVariables false
set_option maxRecDepth 100000 in
theorem orderLine_lifted (os : Os) (started : os.Started) (H : Type) (enc : TypeId × Value → H) :
    ReturnsInHanded {} Try.checked os 7 .any (Rows.orderLineSpec.pre6 enc Try.prog Try.f7 Rows.orderLineRow.domain false) (Rows.orderLineSpec.post enc Try.prog Try.f7 false true false false) := by
  refine returnsInHanded_of_change_sized (C := Try.checked) own started (by kernel_rfl) Try.func7
    (ChangeSpec.witness6 (enc := enc) (C := Try.checked) false ⟨#[], #[.agg #[.slice none 0 0, .slice none 0 0, .slice none 0 0, .slice none 0 0]], []⟩ 8 (by kernel_rfl) (by kernel_rfl) (by kernel_rfl) (by kernel_rfl)) ?_
  intro W base args ds gs before hval hW _ hr _
  refine law_contract (ts := [27]) (tb := 4) laidOut (by kernel_rfl) rfl Try.underlying4 (by kernel_rfl) (fun ds h => ?_) (fun t ht => ?_)
    (opensAll_cons (ag := true) (by kernel_rfl) opens_exec (fun h => by cases h) opensAll_nil)
    (fun a h => ?_) hval hW hr
  · match ds, h with
    | [d0], _ => rfl
  · have : ∀ t ∈ [27], Try.prog.readableRec t = true ∧ t < Try.prog.types.size := by
      simp only [List.forall_mem_cons]
      refine ⟨⟨by kernel_rfl, of_decide_eq_true (by kernel_rfl)⟩, by simp⟩
    exact this t ht
  · exact oline_pure a.1 h.1
theorem orderLine_holds : Rows.OrderLineSaid :=
  OpenClaim.holds_of_wide 7 Try.f7 rfl rfl rfl rfl rfl rfl rfl ⟨rfl, rfl, rfl, rfl, rfl⟩ rfl rfl rfl rfl rfl (by kernel_rfl) Try.func7 (by kernel_rfl)
    (of_decide_eq_true (by kernel_rfl)) (by unfold Func.isWrapper; first | (rw [if_pos (by decide +kernel)]; kernel_rfl) | (rw [if_neg (by decide +kernel)]; exact ⟨rfl, rfl⟩))
    (fun os started H enc _ => orderLine_lifted os started H enc)
end Go.Proofs.Ytncllkpekbapjaa
