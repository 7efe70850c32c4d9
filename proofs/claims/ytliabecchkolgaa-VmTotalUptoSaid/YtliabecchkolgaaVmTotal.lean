/- Each step answers one of four, what answers an error changes nothing, and what is ready does something: for every object and every list of steps that are together of bulk at most 1048576. -/
import Derived.Test.YtliabecchkolgaaVw
import Derived.Test.YtliabecchkolgaaVtotal
namespace Go.Proofs.Ytliabecchkolgaa
open Go Go.Abs Go.Proofs Go.RowKit Go.ChangeShapes Go.WideShapes Go.ChangeAt
set_option linter.unusedSimpArgs false
set_option linter.unusedVariables false
theorem vmTotal_main (o : Obj) (l : List StepV) (h : (o.Wf ∧ ((∀ x ∈ l, x.Wf) ∧ l.length * 16 ≤ 140737488351232) ∧ True) ∧ l.length ≤ 1048576) : Pure Try.prog 11 [o.av, .im 2 .any (l.map StepV.av)] (fun r => r = bl true) := by
  obtain ⟨⟨h1, h2, _⟩, h3⟩ := h
  cases hb : objOk o with
  | true => exact total_ok h1 hb l (by omega)
  | false => exact total_bad h1 hb l

theorem vmTotal_all (o : Obj) (l : List StepV) (h : (o.Wf ∧ ((∀ x ∈ l, x.Wf) ∧ l.length * 16 ≤ 140737488351232) ∧ True) ∧ l.length ≤ 1048576) : Pure Try.prog 11 [o.av, .im 2 .any (l.map StepV.av)] (fun r => r = bl true) := vmTotal_main o l h
set_option maxRecDepth 100000 in
theorem vmTotal_lifted (os : Os) (started : os.Started) (H : Type) (enc : TypeId × Value → H) (F : Stop.Interp) :
    ReturnsInHanded {} Try.checked os 11 .any ((Rows.OpenSpec.upto Rows.vmTotalSpec).pre6 enc Try.prog Try.f11 Rows.vmTotalUptoRow.domain false) (((Rows.OpenSpec.upto Rows.vmTotalSpec).at F).post enc Try.prog Try.f11 false true false false) := by
  refine handed_upto (C := Try.checked) (s := Rows.OpenSpec.upto Rows.vmTotalSpec) Rows.uptoSmall rfl own started (by kernel_rfl) Try.func11
    (OpenSpec.witness (enc := enc) (C := Try.checked) (s := Rows.OpenSpec.upto Rows.vmTotalSpec) (k := Rows.uptoSmall) rfl false ⟨#[], #[.agg #[.slice none 0 0, .int .i64 0, .int .i64 0, .int .i64 0, .slice none 0 0], .slice none 0 0], []⟩ 8 (by kernel_rfl) (by kernel_rfl) (by kernel_rfl)
      (x := ([.agg [.nil, .lit (.int .i64 0), .lit (.int .i64 0), .lit (.int .i64 0), .nil], .nil], [], [])) (by kernel_rfl) (by kernel_rfl) (by kernel_rfl) (by kernel_rfl)) ?_
  intro W base args ds gs before hval hW hk hr
  have hk2 : Rows.uptoBulkAll ds ≤ 1048576 := by
    have h1 : Rows.uptoBulkAll (ds ++ gs) ≤ 1048576 := of_decide_eq_true hk
    exact Nat.le_trans (bulk_append_le ds gs) h1
  refine law_contract_more (ts := [25, 41]) (tb := 4) (ok' := fun a => (a.1.Wf ∧ ((∀ x ∈ a.2.1, x.Wf) ∧ a.2.1.length * 16 ≤ 140737488351232) ∧ True) ∧ a.2.1.length ≤ 1048576) (fun ds => Rows.uptoBulkAll ds ≤ 1048576) laidOut (by kernel_rfl) rfl Try.underlying4 (by kernel_rfl) (fun ds h => ?_) (fun t ht => ?_)
    (opensAll_cons (ag := true) (by kernel_rfl) opens_obj (fun h => by cases h) (opensAll_cons (ag := false) (by kernel_rfl) (opens_steps) (fun _ _ _ => rfl) opensAll_nil)) (fun W a vs ds ps hT hV hg hok => ?_)
    (fun a h => ?_) hval hW hk2 hr
  · match ds, h with
    | [d1, d2], _ => rfl
  · have : ∀ t ∈ [25, 41], Try.prog.readableRec t = true ∧ t < Try.prog.types.size := by
      simp only [List.forall_mem_cons]
      refine ⟨⟨by kernel_rfl, of_decide_eq_true (by kernel_rfl)⟩, ⟨by kernel_rfl, of_decide_eq_true (by kernel_rfl)⟩, by simp⟩
    exact this t ht
  · refine ⟨hok, ?_⟩
    obtain ⟨v1, vs1, d1, ds1, p1, q1, rfl, rfl, rfl, t1, hT⟩ := trodAll_cons hT
    obtain ⟨v2, vs2, d2, ds2, p2, q2, rfl, rfl, rfl, t2, hT⟩ := trodAll_cons hT
    rw [VRs] at hV
    obtain ⟨_, _, he, _, hV⟩ := hV
    simp only [List.cons.injEq] at he
    obtain ⟨rfl, rfl⟩ := he
    rw [VRs] at hV
    obtain ⟨_, _, he, hV, _⟩ := hV
    simp only [List.cons.injEq] at he
    obtain ⟨rfl, rfl⟩ := he
    have h1 := bulk_list Try.underlying41 t2 hV
    have h2 := bulk_all_mem (ds := d1 :: d2 :: ds2) (d := d2) (by simp)
    simp only [List.length_map] at h1
    omega
  · exact vmTotal_all a.1 a.2.1 h

theorem vmTotal_holds : Rows.VmTotalUptoSaid :=
  OpenClaim.holds_of_cond 11 Try.f11 rfl rfl rfl rfl rfl rfl rfl ⟨rfl, rfl, rfl, rfl, rfl⟩ rfl rfl rfl rfl rfl (by kernel_rfl) Try.func11 (by kernel_rfl)
    (of_decide_eq_true (by kernel_rfl)) (by unfold Func.isWrapper; first | (rw [if_pos (by decide +kernel)]; kernel_rfl) | (rw [if_neg (by decide +kernel)]; exact ⟨rfl, rfl⟩))
    (fun os started H enc _ F => by rw [OpenClaim.pre_of_none' rfl]; exact vmTotal_lifted os started H enc F)
end Go.Proofs.Ytliabecchkolgaa
