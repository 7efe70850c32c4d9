/- A step of a core changes no other core; memory changes by swaps and drains alone, at one word; prints grow by prints alone: for every object and every list of steps that are together of bulk at most 1048576. -/
import Derived.Test.YtliabecchkolgaaVw
import Derived.Test.YtliabecchkolgaaVlocal
namespace Go.Proofs.Ytliabecchkolgaa
open Go Go.Abs Go.Proofs Go.RowKit Go.ChangeShapes Go.WideShapes Go.ChangeAt
set_option linter.unusedSimpArgs false
set_option linter.unusedVariables false
theorem local_bad {o : Obj} (ho : o.Wf) (h : objOk o = false) (l : List StepV) : Pure Try.prog 7 [o.av, .im 2 .any (l.map StepV.av)] (fun r => r = bl true) := by
  refine Go.pure Try.func7 nm7 low7 res7 nt7 rfl ?_
  repeat' (first
    | ((with_reducible refine Go.red ?_); conv => whnf)
    | (with_reducible refine Go.and ?_ ?_)
    | (with_reducible exact True.intro)
    | (with_reducible refine Go.far ?_)
    | ((with_reducible refine Apt.mk ?_); (try dsimp only); omega)
    | ((with_reducible refine Ask.mk ?_); first | exact aAsk | exact aAsk2)
    | ((with_reducible refine Go.ari64 ?_ ?_ ?_); (· exact aBnd); (· exact aBnd))
    | ((with_reducible refine Go.ariu8 ?_ ?_ ?_); (· exact aBnd); (· exact aBnd))
    | (with_reducible refine Go.ari0 ?_)
    | (apply Go.elem; (· exact aElem))
    | (apply Go.row; (· exact aRow))
    | (apply Go.gives; (· exact aGives))
    | (apply Go.gives; (· exact aRes))
    | (with_reducible refine Go.unroll ?_)
    | ((with_reducible refine Go.callW (begins_pure) ?_ ?_); (· exact aFit))
    | ((with_reducible refine Go.callJ (fun _ => begins_pure) ?_ ?_); (· exact aFit))
    | ((with_reducible refine Go.callE (begins_pure) ?_ ?_); (· exact aFit))
    | ((with_reducible refine Go.callF (fun _ => begins_pure) ?_ ?_); (· exact aFit))
    | (refine Go.gt rfl ?_)
    | (refine Go.gf rfl ?_)
    | (with_reducible refine Go.join ?_)
    | (refine Go.lt' rfl ?_)
    | (refine Go.lf' rfl ?_)
    | ((with_reducible refine Go.bool ?_ ?_) <;> intro hc <;> (try simp only [List.length_map, ne_eq, hcs] at hc) <;> try (exfalso; omega))
    | ((with_reducible refine Res.eq ?_ ?_); (· exact aFit)))
  refine Go.callN (made_bad ho h) ?_
  rintro _ H2 n2 ⟨rfl, h1, h3⟩
  have e0 : getH H2 0 = some (.row 25 5 .any [o.av]) := (h3 0 (by omega)).trans rfl
  have hn4 : 4 ≤ n2 := by omega
  clear h3
  repeat' (first
    | ((with_reducible refine Go.red ?_); conv => whnf)
    | (with_reducible refine Go.and ?_ ?_)
    | (with_reducible exact True.intro)
    | (with_reducible refine Go.far ?_)
    | ((with_reducible refine Apt.mk ?_); (try dsimp only); omega)
    | ((with_reducible refine Ask.mk ?_); first | exact aAsk | exact aAsk2)
    | ((with_reducible refine Go.ari64 ?_ ?_ ?_); (· exact aBnd); (· exact aBnd))
    | ((with_reducible refine Go.ariu8 ?_ ?_ ?_); (· exact aBnd); (· exact aBnd))
    | (with_reducible refine Go.ari0 ?_)
    | (apply Go.elem; (· exact aElem))
    | (apply Go.row; (· exact aRow))
    | (apply Go.gives; (· exact aGives))
    | (apply Go.gives; (· exact aRes))
    | (with_reducible refine Go.unroll ?_)
    | (refine Go.gt rfl ?_)
    | (refine Go.gf rfl ?_)
    | (with_reducible refine Go.join ?_)
    | (refine Go.lt' rfl ?_)
    | (refine Go.lf' rfl ?_)
    | ((with_reducible refine Go.bool ?_ ?_) <;> intro hc <;> (try simp only [List.length_map, ne_eq, hcs] at hc) <;> try (exfalso; omega))
    | ((with_reducible refine Res.eq ?_ ?_); (· exact aFit)))
  exact rfl
theorem vmLocal_main (o : Obj) (l : List StepV) (h : (o.Wf ∧ ((∀ x ∈ l, x.Wf) ∧ l.length * 16 ≤ 140737488351232) ∧ True) ∧ l.length ≤ 1048576) : Pure Try.prog 7 [o.av, .im 2 .any (l.map StepV.av)] (fun r => r = bl true) := by
  obtain ⟨⟨h1, h2, _⟩, h3⟩ := h
  cases hb : objOk o with
  | true => exact local_pure h1 hb l (by omega)
  | false => exact local_bad h1 hb l

theorem vmLocal_all (o : Obj) (l : List StepV) (h : (o.Wf ∧ ((∀ x ∈ l, x.Wf) ∧ l.length * 16 ≤ 140737488351232) ∧ True) ∧ l.length ≤ 1048576) : Pure Try.prog 7 [o.av, .im 2 .any (l.map StepV.av)] (fun r => r = bl true) := vmLocal_main o l h
set_option maxRecDepth 100000 in
theorem vmLocal_lifted (os : Os) (started : os.Started) (H : Type) (enc : TypeId × Value → H) (F : Stop.Interp) :
    ReturnsInHanded {} Try.checked os 7 .any ((Rows.OpenSpec.upto Rows.vmLocalSpec).pre6 enc Try.prog Try.f7 Rows.vmLocalUptoRow.domain false) (((Rows.OpenSpec.upto Rows.vmLocalSpec).at F).post enc Try.prog Try.f7 false true false false) := by
  refine handed_upto (C := Try.checked) (s := Rows.OpenSpec.upto Rows.vmLocalSpec) Rows.uptoSmall rfl own started (by kernel_rfl) Try.func7
    (OpenSpec.witness (enc := enc) (C := Try.checked) (s := Rows.OpenSpec.upto Rows.vmLocalSpec) (k := Rows.uptoSmall) rfl false ⟨#[], #[.agg #[.slice none 0 0, .int .i64 0, .int .i64 0, .int .i64 0, .slice none 0 0], .slice none 0 0], []⟩ 8 (by kernel_rfl) (by kernel_rfl) (by kernel_rfl)
      (x := ([.agg [.nil, .lit (.int .i64 0), .lit (.int .i64 0), .lit (.int .i64 0), .nil], .nil], [], [])) (by kernel_rfl) (by kernel_rfl) (by kernel_rfl) (by kernel_rfl)) ?_
  intro W base args ds gs before hval hW hk hr
  have hk2 : Rows.uptoBulkAll ds ≤ 1048576 := by
    have h1 : Rows.uptoBulkAll (ds ++ gs) ≤ 1048576 := of_decide_eq_true hk
    exact Nat.le_trans (bulk_append_le ds gs) h1
  refine law_contract_more (ts := [25, 41]) (tb := 4) (ok' := fun a => (a.1.Wf ∧ ((∀ x ∈ a.2.1, x.Wf) ∧ a.2.1.length * 16 ≤ 140737488351232) ∧ True) ∧ a.2.1.length ≤ 1048576) (fun ds => Rows.uptoBulkAll ds ≤ 1048576) laidOut (by kernel_rfl) rfl Try.underlying4 (by kernel_rfl) (fun ds h => ?_) (fun t ht => ?_)
    (opensAll_cons (ag := true) (by kernel_rfl) opens_obj (fun h => by cases h) (opensAll_cons (ag := false) (by kernel_rfl) (opens_steps) (fun _ _ _ => rfl) opensAll_nil)) (fun W a vs ds ps hT hV hg hok => ?_)
    (fun a h => ?_) hval hW hk2 hr
  · match ds, h with
    | [d1, d2], _ => rfl
  · have : ∀ t ∈ [25, 41], Try.prog.readableRec t = true ∧ t < Try.prog.types.size := by
      simp only [List.forall_mem_cons]
      refine ⟨⟨by kernel_rfl, of_decide_eq_true (by kernel_rfl)⟩, ⟨by kernel_rfl, of_decide_eq_true (by kernel_rfl)⟩, by simp⟩
    exact this t ht
  · refine ⟨hok, ?_⟩
    obtain ⟨v1, vs1, d1, ds1, p1, q1, rfl, rfl, rfl, t1, hT⟩ := trodAll_cons hT
    obtain ⟨v2, vs2, d2, ds2, p2, q2, rfl, rfl, rfl, t2, hT⟩ := trodAll_cons hT
    rw [VRs] at hV
    obtain ⟨_, _, he, _, hV⟩ := hV
    simp only [List.cons.injEq] at he
    obtain ⟨rfl, rfl⟩ := he
    rw [VRs] at hV
    obtain ⟨_, _, he, hV, _⟩ := hV
    simp only [List.cons.injEq] at he
    obtain ⟨rfl, rfl⟩ := he
    have h1 := bulk_list Try.underlying41 t2 hV
    have h2 := bulk_all_mem (ds := d1 :: d2 :: ds2) (d := d2) (by simp)
    simp only [List.length_map] at h1
    omega
  · exact vmLocal_all a.1 a.2.1 h

theorem vmLocal_holds : Rows.VmLocalUptoSaid :=
  OpenClaim.holds_of_cond 7 Try.f7 rfl rfl rfl rfl rfl rfl rfl ⟨rfl, rfl, rfl, rfl, rfl⟩ rfl rfl rfl rfl rfl (by kernel_rfl) Try.func7 (by kernel_rfl)
    (of_decide_eq_true (by kernel_rfl)) (by unfold Func.isWrapper; first | (rw [if_pos (by decide +kernel)]; kernel_rfl) | (rw [if_neg (by decide +kernel)]; exact ⟨rfl, rfl⟩))
    (fun os started H enc _ F => by rw [OpenClaim.pre_of_none' rfl]; exact vmLocal_lifted os started H enc F)
end Go.Proofs.Ytliabecchkolgaa
