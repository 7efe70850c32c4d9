/- Every Play answers as the document says. -/
import Derived.Test.YtliabecchkolgaaWl
import Derived.Test.YtliabecchkolgaaVplay
import Derived.Test.YtliabecchkolgaaWb
import Derived.Test.YtliabecchkolgaaVa
namespace Go.Proofs.Ytliabecchkolgaa
open Go Go.Abs Go.Proofs
set_option linter.unusedSimpArgs false
set_option linter.unusedVariables false
theorem rstepV {o : Obj} {s : Mach} (g : Good o s) (ok : ObjOk o) (hpl : (s.prints.length + 1) * 16 ≤ 140737488355328) (x : StepV) : Pure Try.prog 24 [stAv o s, x.av] (fun r => r = outAv o (stepS o s x.kind x.core)) := rstep_pure g ok hpl x.kind x.core
theorem dids_len (o : Obj) (l : List StepV) (n : Nat) : (didsS o l n).length = n := by simp [didsS]
theorem errs_len (o : Obj) (l : List StepV) (n : Nat) : (errsS o l n).length = n := by simp [errsS]
theorem dids_at {o : Obj} {l : List StepV} {i n : Nat} (h : i < n) (d : AV) : (didsS o l n).getD ((i : Int).toNat) d = (doesS o l i).2.1.av := by simp [didsS, List.getD, h]
theorem errs_at {o : Obj} {l : List StepV} {i n : Nat} (h : i < n) (d : AV) : (errsS o l n).getD ((i : Int).toNat) d = i64 (doesS o l i).2.2 := by simp [errsS, List.getD, h]
theorem plays_bad {o : Obj} (ho : o.Wf) (h : objOk o = false) (l : List StepV) : Pure Try.prog 6 [o.av, .im 2 .any (l.map StepV.av)] (fun r => r = bl true) := by
  refine Go.pure Try.func6 nm6 low6 res6 nt6 rfl ?_
  obtain ⟨k, n, hcb⟩ := check_bad h
  repeat' (first
    | ((with_reducible refine Go.red ?_); conv => whnf)
    | (with_reducible refine Go.and ?_ ?_)
    | (with_reducible exact True.intro)
    | (with_reducible refine Go.far ?_)
    | ((with_reducible refine Apt.mk ?_); (try dsimp only); omega)
    | ((with_reducible refine Ask.mk ?_); first | exact aAsk | exact aAsk2)
    | ((with_reducible refine Go.ari64 ?_ ?_ ?_); (· exact aBnd); (· exact aBnd))
    | ((with_reducible refine Go.ariu8 ?_ ?_ ?_); (· exact aBnd); (· exact aBnd))
    | (with_reducible refine Go.ari0 ?_)
    | (apply Go.elem; (· exact aElem))
    | (apply Go.row; (· exact aRow))
    | (apply Go.gives; (· exact aGives))
    | (apply Go.gives; (· exact aRes))
    | (with_reducible refine Go.unroll ?_)
    | ((with_reducible refine Go.callW (play_bad ho h l) ?_ ?_); (· exact aFit))
    | ((with_reducible refine Go.callJ (fun _ => play_bad ho h l) ?_ ?_); (· exact aFit))
    | ((with_reducible refine Go.callE (play_bad ho h l) ?_ ?_); (· exact aFit))
    | ((with_reducible refine Go.callF (fun _ => play_bad ho h l) ?_ ?_); (· exact aFit))
    | ((with_reducible refine Go.callW (hcb ▸ rcheck_pure o ho) ?_ ?_); (· exact aFit))
    | ((with_reducible refine Go.callJ (fun _ => hcb ▸ rcheck_pure o ho) ?_ ?_); (· exact aFit))
    | ((with_reducible refine Go.callE (hcb ▸ rcheck_pure o ho) ?_ ?_); (· exact aFit))
    | ((with_reducible refine Go.callF (fun _ => hcb ▸ rcheck_pure o ho) ?_ ?_); (· exact aFit))
    | ((with_reducible refine Go.callW (begins_pure) ?_ ?_); (· exact aFit))
    | ((with_reducible refine Go.callJ (fun _ => begins_pure) ?_ ?_); (· exact aFit))
    | ((with_reducible refine Go.callE (begins_pure) ?_ ?_); (· exact aFit))
    | ((with_reducible refine Go.callF (fun _ => begins_pure) ?_ ?_); (· exact aFit))
    | (refine Go.gt rfl ?_)
    | (refine Go.gf rfl ?_)
    | (with_reducible refine Go.join ?_)
    | (refine Go.lt' rfl ?_)
    | (refine Go.lf' rfl ?_)
    | ((with_reducible refine Go.bool ?_ ?_) <;> intro hc <;> (try simp only [List.length_map, ne_eq, hcs] at hc) <;> try (exfalso; omega))
    | ((with_reducible refine Res.eq ?_ ?_); (· exact aFit)))
  exact rfl
theorem plays_many {o : Obj} (ho : o.Wf) (h : objOk o = true) (l : List StepV) (hl : 1048576 < l.length) : Pure Try.prog 6 [o.av, .im 2 .any (l.map StepV.av)] (fun r => r = bl true) := by
  refine Go.pure Try.func6 nm6 low6 res6 nt6 rfl ?_
  repeat' (first
    | ((with_reducible refine Go.red ?_); conv => whnf)
    | (with_reducible refine Go.and ?_ ?_)
    | (with_reducible exact True.intro)
    | (with_reducible refine Go.far ?_)
    | ((with_reducible refine Apt.mk ?_); (try dsimp only); omega)
    | ((with_reducible refine Ask.mk ?_); first | exact aAsk | exact aAsk2)
    | ((with_reducible refine Go.ari64 ?_ ?_ ?_); (· exact aBnd); (· exact aBnd))
    | ((with_reducible refine Go.ariu8 ?_ ?_ ?_); (· exact aBnd); (· exact aBnd))
    | (with_reducible refine Go.ari0 ?_)
    | (apply Go.elem; (· exact aElem))
    | (apply Go.row; (· exact aRow))
    | (apply Go.gives; (· exact aGives))
    | (apply Go.gives; (· exact aRes))
    | (with_reducible refine Go.unroll ?_)
    | ((with_reducible refine Go.callW (play_many ho h l hl) ?_ ?_); (· exact aFit))
    | ((with_reducible refine Go.callJ (fun _ => play_many ho h l hl) ?_ ?_); (· exact aFit))
    | ((with_reducible refine Go.callE (play_many ho h l hl) ?_ ?_); (· exact aFit))
    | ((with_reducible refine Go.callF (fun _ => play_many ho h l hl) ?_ ?_); (· exact aFit))
    | ((with_reducible refine Go.callW (check_ok h ▸ rcheck_pure o ho) ?_ ?_); (· exact aFit))
    | ((with_reducible refine Go.callJ (fun _ => check_ok h ▸ rcheck_pure o ho) ?_ ?_); (· exact aFit))
    | ((with_reducible refine Go.callE (check_ok h ▸ rcheck_pure o ho) ?_ ?_); (· exact aFit))
    | ((with_reducible refine Go.callF (fun _ => check_ok h ▸ rcheck_pure o ho) ?_ ?_); (· exact aFit))
    | ((with_reducible refine Go.callW (begins_pure) ?_ ?_); (· exact aFit))
    | ((with_reducible refine Go.callJ (fun _ => begins_pure) ?_ ?_); (· exact aFit))
    | ((with_reducible refine Go.callE (begins_pure) ?_ ?_); (· exact aFit))
    | ((with_reducible refine Go.callF (fun _ => begins_pure) ?_ ?_); (· exact aFit))
    | (refine Go.gt rfl ?_)
    | (refine Go.gf rfl ?_)
    | (with_reducible refine Go.join ?_)
    | (refine Go.lt' rfl ?_)
    | (refine Go.lf' rfl ?_)
    | ((with_reducible refine Go.bool ?_ ?_) <;> intro hc <;> (try simp only [List.length_map, ne_eq, hcs] at hc) <;> try (exfalso; omega))
    | ((with_reducible refine Res.eq ?_ ?_); (· exact aFit)))
  · exact rfl
  · exfalso
    rcases hc with hc | hc
    · exact hc trivial
    · omega
theorem plays_nil {o : Obj} (ho : o.Wf) (h : objOk o = true) : Pure Try.prog 6 [o.av, .im 2 .any (([] : List StepV).map StepV.av)] (fun r => r = bl true) := by
  refine Go.pure Try.func6 nm6 low6 res6 nt6 rfl ?_
  have ok := objOk_ok h
  repeat' (first
    | ((with_reducible refine Go.red ?_); conv => whnf)
    | (with_reducible refine Go.and ?_ ?_)
    | (with_reducible exact True.intro)
    | (with_reducible refine Go.far ?_)
    | ((with_reducible refine Apt.mk ?_); (try dsimp only); omega)
    | ((with_reducible refine Ask.mk ?_); first | exact aAsk | exact aAsk2)
    | ((with_reducible refine Go.ari64 ?_ ?_ ?_); (· exact aBnd); (· exact aBnd))
    | ((with_reducible refine Go.ariu8 ?_ ?_ ?_); (· exact aBnd); (· exact aBnd))
    | (with_reducible refine Go.ari0 ?_)
    | (apply Go.elem; (· exact aElem))
    | (apply Go.row; (· exact aRow))
    | (apply Go.gives; (· exact aGives))
    | (apply Go.gives; (· exact aRes))
    | (with_reducible refine Go.unroll ?_)
    | ((with_reducible refine Go.callW (play_nil ho h) ?_ ?_); (· exact aFit))
    | ((with_reducible refine Go.callJ (fun _ => play_nil ho h) ?_ ?_); (· exact aFit))
    | ((with_reducible refine Go.callE (play_nil ho h) ?_ ?_); (· exact aFit))
    | ((with_reducible refine Go.callF (fun _ => play_nil ho h) ?_ ?_); (· exact aFit))
    | ((with_reducible refine Go.callW (check_ok h ▸ rcheck_pure o ho) ?_ ?_); (· exact aFit))
    | ((with_reducible refine Go.callJ (fun _ => check_ok h ▸ rcheck_pure o ho) ?_ ?_); (· exact aFit))
    | ((with_reducible refine Go.callE (check_ok h ▸ rcheck_pure o ho) ?_ ?_); (· exact aFit))
    | ((with_reducible refine Go.callF (fun _ => check_ok h ▸ rcheck_pure o ho) ?_ ?_); (· exact aFit))
    | ((with_reducible refine Go.callW (begins_pure) ?_ ?_); (· exact aFit))
    | ((with_reducible refine Go.callJ (fun _ => begins_pure) ?_ ?_); (· exact aFit))
    | ((with_reducible refine Go.callE (begins_pure) ?_ ?_); (· exact aFit))
    | ((with_reducible refine Go.callF (fun _ => begins_pure) ?_ ?_); (· exact aFit))
    | ((with_reducible refine Go.callW (rnew_pure o ho ok.cores ok.mem) ?_ ?_); (· exact aFit))
    | ((with_reducible refine Go.callJ (fun _ => rnew_pure o ho ok.cores ok.mem) ?_ ?_); (· exact aFit))
    | ((with_reducible refine Go.callE (rnew_pure o ho ok.cores ok.mem) ?_ ?_); (· exact aFit))
    | ((with_reducible refine Go.callF (fun _ => rnew_pure o ho ok.cores ok.mem) ?_ ?_); (· exact aFit))
    | (refine Go.gt rfl ?_)
    | (refine Go.gf rfl ?_)
    | (with_reducible refine Go.join ?_)
    | (refine Go.lt' rfl ?_)
    | (refine Go.lf' rfl ?_)
    | ((with_reducible refine Go.bool ?_ ?_) <;> intro hc <;> (try simp only [List.length_map, ne_eq, hcs] at hc) <;> try (exfalso; omega))
    | ((with_reducible refine Res.eq ?_ ?_); (· exact aFit)))
  refine Go.head ?_
  repeat' (first
    | ((with_reducible refine Go.red ?_); conv => whnf)
    | (with_reducible refine Go.and ?_ ?_)
    | (with_reducible exact True.intro)
    | (with_reducible refine Go.far ?_)
    | ((with_reducible refine Apt.mk ?_); (try dsimp only); omega)
    | ((with_reducible refine Ask.mk ?_); first | exact aAsk | exact aAsk2)
    | ((with_reducible refine Go.ari64 ?_ ?_ ?_); (· exact aBnd); (· exact aBnd))
    | ((with_reducible refine Go.ariu8 ?_ ?_ ?_); (· exact aBnd); (· exact aBnd))
    | (with_reducible refine Go.ari0 ?_)
    | (apply Go.elem; (· exact aElem))
    | (apply Go.row; (· exact aRow))
    | (apply Go.gives; (· exact aGives))
    | (apply Go.gives; (· exact aRes))
    | (with_reducible refine Go.unroll ?_)
    | ((with_reducible refine Go.callW (begins_pure) ?_ ?_); (· exact aFit))
    | ((with_reducible refine Go.callJ (fun _ => begins_pure) ?_ ?_); (· exact aFit))
    | ((with_reducible refine Go.callE (begins_pure) ?_ ?_); (· exact aFit))
    | ((with_reducible refine Go.callF (fun _ => begins_pure) ?_ ?_); (· exact aFit))
    | (refine Go.gt rfl ?_)
    | (refine Go.gf rfl ?_)
    | (with_reducible refine Go.join ?_)
    | (refine Go.lt' rfl ?_)
    | (refine Go.lf' rfl ?_)
    | ((with_reducible refine Go.bool ?_ ?_) <;> intro hc <;> (try simp only [List.length_map, ne_eq, hcs] at hc) <;> try (exfalso; omega))
    | ((with_reducible refine Res.eq ?_ ?_); (· exact aFit)))
  exact rfl
theorem plays_ok {o : Obj} (ho : o.Wf) (h : objOk o = true) (l : List StepV) (hl : l.length ≤ 1048576) (h0 : 0 < l.length) : Pure Try.prog 6 [o.av, .im 2 .any (l.map StepV.av)] (fun r => r = bl true) := by
  refine Go.pure Try.func6 nm6 low6 res6 nt6 rfl ?_
  have ok := objOk_ok h
  repeat' (first
    | ((with_reducible refine Go.red ?_); conv => whnf)
    | (with_reducible refine Go.and ?_ ?_)
    | (with_reducible exact True.intro)
    | (with_reducible refine Go.far ?_)
    | ((with_reducible refine Apt.mk ?_); (try dsimp only); omega)
    | ((with_reducible refine Ask.mk ?_); first | exact aAsk | exact aAsk2)
    | ((with_reducible refine Go.ari64 ?_ ?_ ?_); (· exact aBnd); (· exact aBnd))
    | ((with_reducible refine Go.ariu8 ?_ ?_ ?_); (· exact aBnd); (· exact aBnd))
    | (with_reducible refine Go.ari0 ?_)
    | (apply Go.elem; (· exact aElem))
    | (apply Go.row; (· exact aRow))
    | (apply Go.gives; (· exact aGives))
    | (apply Go.gives; (· exact aRes))
    | (with_reducible refine Go.unroll ?_)
    | ((with_reducible refine Go.callW (play_ok0 ho h l hl h0) ?_ ?_); (· exact aFit))
    | ((with_reducible refine Go.callJ (fun _ => play_ok0 ho h l hl h0) ?_ ?_); (· exact aFit))
    | ((with_reducible refine Go.callE (play_ok0 ho h l hl h0) ?_ ?_); (· exact aFit))
    | ((with_reducible refine Go.callF (fun _ => play_ok0 ho h l hl h0) ?_ ?_); (· exact aFit))
    | ((with_reducible refine Go.callW (check_ok h ▸ rcheck_pure o ho) ?_ ?_); (· exact aFit))
    | ((with_reducible refine Go.callJ (fun _ => check_ok h ▸ rcheck_pure o ho) ?_ ?_); (· exact aFit))
    | ((with_reducible refine Go.callE (check_ok h ▸ rcheck_pure o ho) ?_ ?_); (· exact aFit))
    | ((with_reducible refine Go.callF (fun _ => check_ok h ▸ rcheck_pure o ho) ?_ ?_); (· exact aFit))
    | ((with_reducible refine Go.callW (begins_pure) ?_ ?_); (· exact aFit))
    | ((with_reducible refine Go.callJ (fun _ => begins_pure) ?_ ?_); (· exact aFit))
    | ((with_reducible refine Go.callE (begins_pure) ?_ ?_); (· exact aFit))
    | ((with_reducible refine Go.callF (fun _ => begins_pure) ?_ ?_); (· exact aFit))
    | ((with_reducible refine Go.callW (rnew_pure o ho ok.cores ok.mem) ?_ ?_); (· exact aFit))
    | ((with_reducible refine Go.callJ (fun _ => rnew_pure o ho ok.cores ok.mem) ?_ ?_); (· exact aFit))
    | ((with_reducible refine Go.callE (rnew_pure o ho ok.cores ok.mem) ?_ ?_); (· exact aFit))
    | ((with_reducible refine Go.callF (fun _ => rnew_pure o ho ok.cores ok.mem) ?_ ?_); (· exact aFit))
    | (refine Go.gt rfl ?_)
    | (refine Go.gf rfl ?_)
    | (with_reducible refine Go.join ?_)
    | (refine Go.lt' rfl ?_)
    | (refine Go.lf' rfl ?_)
    | ((with_reducible refine Go.bool ?_ ?_) <;> intro hc <;> (try simp only [List.length_map, ne_eq, hcs] at hc) <;> try (exfalso; omega))
    | ((with_reducible refine Res.eq ?_ ?_); (· exact aFit)))
  · exfalso
    simp [didsS, errsS] at hc
  refine Go.loop (fun i : Nat => [(1, .im 2 .any (l.map StepV.av)), (5, .im 7 .any (didsS o l l.length)), (6, .im 1 .any (errsS o l l.length)), (11, .pt 45 1 0 0), (12, i64 i)]) (fun i H n => i ≤ l.length ∧ 46 ≤ n ∧ ∃ d, getH H 45 = some (.row 66 8 d [stAv o (atS o l i)])) (fun i => l.length - i) 0 aLess ⟨Nat.zero_le _, aNx, _, aRow⟩ ?_
  rintro i H n ⟨hi, hn, d, r45⟩
  have hg := atS_good ok l i hi
  have hdl := dids_len o l l.length
  have hel := errs_len o l l.length
  clear hc
  by_cases hil : i < l.length
  · repeat' (first
        | ((with_reducible refine Go.red ?_); conv => whnf)
        | (with_reducible refine Go.and ?_ ?_)
        | (with_reducible exact True.intro)
        | (with_reducible refine Go.far ?_)
        | ((with_reducible refine Apt.mk ?_); (try dsimp only); omega)
        | ((with_reducible refine Ask.mk ?_); first | exact aAsk | exact aAsk2)
        | ((with_reducible refine Go.ari64 ?_ ?_ ?_); (· exact aBnd); (· exact aBnd))
        | ((with_reducible refine Go.ariu8 ?_ ?_ ?_); (· exact aBnd); (· exact aBnd))
        | (with_reducible refine Go.ari0 ?_)
        | (apply Go.elem; (· (first | exact dids_at hil _ | exact errs_at hil _ | exact aElem)))
        | (apply Go.row; (· exact aRow))
        | (apply Go.gives; (· exact aGives))
        | (apply Go.gives; (· exact aRes))
        | (with_reducible refine Go.unroll ?_)
        | ((with_reducible refine Go.callW (rstepV hg.1 ok (by omega) _) ?_ ?_); (· exact aFit))
        | ((with_reducible refine Go.callJ (fun _ => rstepV hg.1 ok (by omega) _) ?_ ?_); (· exact aFit))
        | ((with_reducible refine Go.callE (rstepV hg.1 ok (by omega) _) ?_ ?_); (· exact aFit))
        | ((with_reducible refine Go.callF (fun _ => rstepV hg.1 ok (by omega) _) ?_ ?_); (· exact aFit))
        | ((with_reducible refine Go.callW (begins_pure) ?_ ?_); (· exact aFit))
        | ((with_reducible refine Go.callJ (fun _ => begins_pure) ?_ ?_); (· exact aFit))
        | ((with_reducible refine Go.callE (begins_pure) ?_ ?_); (· exact aFit))
        | ((with_reducible refine Go.callF (fun _ => begins_pure) ?_ ?_); (· exact aFit))
        | (refine Go.gt rfl ?_)
        | (refine Go.gf rfl ?_)
        | (with_reducible refine Go.join ?_)
        | (refine Go.lt' rfl ?_)
        | (refine Go.lf' rfl ?_)
        | ((with_reducible refine Go.bool ?_ ?_) <;> intro hc <;> (try simp only [List.length_map, ne_eq, hcs] at hc) <;> try (exfalso; omega))
        | ((with_reducible refine Res.eq ?_ ?_); (· exact aFit)))
    · exfalso
      simp [doesS] at hc
    · refine ⟨i + 1, by omega, aLess, by omega, aNx, ?_⟩
      rw [atS_next hil]
      exact ⟨_, aRow⟩
  · repeat' (first
        | ((with_reducible refine Go.red ?_); conv => whnf)
        | (with_reducible refine Go.and ?_ ?_)
        | (with_reducible exact True.intro)
        | (with_reducible refine Go.far ?_)
        | ((with_reducible refine Apt.mk ?_); (try dsimp only); omega)
        | ((with_reducible refine Ask.mk ?_); first | exact aAsk | exact aAsk2)
        | ((with_reducible refine Go.ari64 ?_ ?_ ?_); (· exact aBnd); (· exact aBnd))
        | ((with_reducible refine Go.ariu8 ?_ ?_ ?_); (· exact aBnd); (· exact aBnd))
        | (with_reducible refine Go.ari0 ?_)
        | (apply Go.elem; (· exact aElem))
        | (apply Go.row; (· exact aRow))
        | (apply Go.gives; (· exact aGives))
        | (apply Go.gives; (· exact aRes))
        | (with_reducible refine Go.unroll ?_)
        | ((with_reducible refine Go.callW (begins_pure) ?_ ?_); (· exact aFit))
        | ((with_reducible refine Go.callJ (fun _ => begins_pure) ?_ ?_); (· exact aFit))
        | ((with_reducible refine Go.callE (begins_pure) ?_ ?_); (· exact aFit))
        | ((with_reducible refine Go.callF (fun _ => begins_pure) ?_ ?_); (· exact aFit))
        | (refine Go.gt rfl ?_)
        | (refine Go.gf rfl ?_)
        | (with_reducible refine Go.join ?_)
        | (refine Go.lt' rfl ?_)
        | (refine Go.lf' rfl ?_)
        | ((with_reducible refine Go.bool ?_ ?_) <;> intro hc <;> (try simp only [List.length_map, ne_eq, hcs] at hc) <;> try (exfalso; omega))
        | ((with_reducible refine Res.eq ?_ ?_); (· exact aFit)))
    exact rfl
theorem plays_pure (o : Obj) (l : List StepV) (ho : o.Wf) : Pure Try.prog 6 [o.av, .im 2 .any (l.map StepV.av)] (fun r => r = bl true) := by
  cases h : objOk o with
  | false => exact plays_bad ho h l
  | true =>
    by_cases hl : 1048576 < l.length
    · exact plays_many ho h l hl
    · cases l with
      | nil => exact plays_nil ho h
      | cons x t => exact plays_ok ho h (x :: t) (by omega) (by simp)
end Go.Proofs.Ytliabecchkolgaa
