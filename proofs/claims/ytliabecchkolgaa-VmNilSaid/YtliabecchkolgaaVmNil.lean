/- A nil machine answers as the document says: for every core and every step. No conditions. -/
import Derived.Test.YtliabecchkolgaaRows
import Derived.Test.YtliabecchkolgaaVa
namespace Go.Proofs.Ytliabecchkolgaa
open Go Go.Abs Go.Proofs Go.RowKit Go.ChangeShapes Go.WideShapes Go.ChangeAt

theorem own : ownKnob Try.prog.godebug = none := by kernel_rfl
theorem laidOut : laidOutB Try.prog = true := by kernel_rfl

theorem opens_step : OpensC Try.prog 46 (fun p : Int × Int => [.sc (.int .u8 p.1), .sc (.int .i64 p.2)]) (fun p => (Lit.int .u8 p.1).wf = true ∧ (Lit.int .i64 p.2).wf = true) := by
  refine OpensC.map (fun p : Int × Int × Unit => (p.1, p.2.1)) (opens_struct (k := 2) Try.underlying46 (by kernel_rfl) (opensF_cons (k := 1) rfl (by kernel_rfl) (opens_int Try.underlying44) (opensF_cons (k := 1) rfl (by kernel_rfl) (opens_int Try.underlying3) opensF_nil))) ?_ ?_
  · intro a _; rfl
  · intro a h; exact ⟨h.1, h.2.1⟩

set_option maxRecDepth 100000 in
theorem vmNil_lifted (os : Os) (started : os.Started) (H : Type) (enc : TypeId × Value → H) :
    ReturnsInHanded {} Try.checked os 10 .any (Rows.vmNilSpec.pre6 enc Try.prog Try.f10 Rows.vmNilRow.domain false) (Rows.vmNilSpec.post enc Try.prog Try.f10 false true false false) := by
  refine returnsInHanded_of_change_sized (C := Try.checked) own started (by kernel_rfl) Try.func10
    (ChangeSpec.witness6 (enc := enc) (C := Try.checked) false ⟨#[], #[.int .i64 0, .agg #[.int .u8 0, .int .i64 0]], []⟩ 8 (by kernel_rfl) (by kernel_rfl) (by kernel_rfl) (by kernel_rfl)) ?_
  intro W base args ds gs before hval hW _ hr _
  refine law_contract (ts := [3, 46]) (tb := 4) laidOut (by kernel_rfl) rfl Try.underlying4 (by kernel_rfl) (fun ds h => ?_) (fun t ht => ?_)
    (opensAll_cons (ag := false) (by kernel_rfl) (opens_int Try.underlying3) (fun _ _ _ => rfl) (opensAll_cons (ag := true) (by kernel_rfl) opens_step (fun h => by cases h) opensAll_nil))
    (fun a _ => ?_) hval hW hr
  · match ds, h with
    | [d1, d2], _ => rfl
  · have : ∀ t ∈ [3, 46], Try.prog.readableRec t = true ∧ t < Try.prog.types.size := by
      simp only [List.forall_mem_cons]
      refine ⟨⟨by kernel_rfl, of_decide_eq_true (by kernel_rfl)⟩, ⟨by kernel_rfl, of_decide_eq_true (by kernel_rfl)⟩, by simp⟩
    exact this t ht
  · exact nil_pure a.1 a.2.1.1 a.2.1.2

theorem vmNil_holds : Rows.VmNilSaid :=
  OpenClaim.holds_of_wide 10 Try.f10 rfl rfl rfl rfl rfl rfl rfl ⟨rfl, rfl, rfl, rfl, rfl⟩ rfl rfl rfl rfl rfl (by kernel_rfl) Try.func10 (by kernel_rfl)
    (of_decide_eq_true (by kernel_rfl)) (by unfold Func.isWrapper; first | (rw [if_pos (by decide +kernel)]; kernel_rfl) | (rw [if_neg (by decide +kernel)]; exact ⟨rfl, rfl⟩))
    (fun os started H enc _ => vmNil_lifted os started H enc)
end Go.Proofs.Ytliabecchkolgaa
