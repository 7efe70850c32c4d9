/- Every step answers as the document says. -/
import Derived.Test.YtliabecchkolgaaGreatWl
import Derived.Test.YtliabecchkolgaaGreatVready
import Derived.Test.YtliabecchkolgaaGreatVcopy
import Derived.Test.YtliabecchkolgaaGreatWb
import Derived.Test.YtliabecchkolgaaGreatVa
import Derived.Test.YtliabecchkolgaaGreatVn
import Derived.Test.YtliabecchkolgaaGreatVplay
namespace Go.Proofs.YtliabecchkolgaaGreat
open Go Go.Abs Go.Proofs
set_option linter.unusedSimpArgs false
set_option linter.unusedVariables false
theorem rstepV {o : Obj} {s : Mach} (g : Good o s) (ok : ObjOk o) (hpl : (s.prints.length + 1) * 16 ≤ 140737488355328) (x : StepV) : Pure Tryz.prog 11 [stAv o s, x.av] (fun r => r = outAv o (stepS o s x.kind x.core)) := rstep_pure g ok hpl x.kind x.core
theorem run_as {o : Obj} {s : Mach} {L : Lay} {H : Hp} {nx : Nat} (h : MAt o s L H nx) (g : Good o s) (ok : ObjOk o) (hpl : (s.prints.length + 1) * 16 ≤ 140737488355328) (kind k : Int) (hk : kind = 1) : CallN Tryz.prog 12 [.pt L.m 1 0 0, i64 k] H nx (Stepped o L H nx (stepS o s kind k)) := by
  rw [stepS, if_pos hk]; exact run_call h g ok hpl k
theorem drain_as {o : Obj} {s : Mach} {L : Lay} {H : Hp} {nx : Nat} (h : MAt o s L H nx) (g : Good o s) (ok : ObjOk o) (kind k : Int) (hk : kind = 2) : CallN Tryz.prog 13 [.pt L.m 1 0 0, i64 k] H nx (Stepped o L H nx (stepS o s kind k)) := by
  rw [stepS, if_neg (by omega), if_pos hk]; exact drain_call h g ok k
theorem stands_args {o : Obj} {s : Mach} {L : Lay} {H H' : Hp} {n : Nat} (hM : MAt o s L H n) (hk : ∀ x, x ∈ L.ids → getH H' x = getH H x) : List.map (Abs.frz H' 6) [.pt L.m 1 0 0, stAv o s] = [s.frozen o, stAv o s] := by
  rw [List.map_cons, List.map_cons, List.map_nil, (hM.keepIds hk (Nat.le_refl _)).frz, frz_fit 6 (fit_st 0 o s)]
theorem view_stands {o : Obj} {s : Mach} {L : Lay} {H : Hp} {nx : Nat} {K : AV → Hp → Nat → Prop} (hM : MAt o s L H nx) (g : Good o s) (ok : ObjOk o) (h : Lookable s) (hK : Go (K (bl true) H nx)) : CallW Tryz.prog 10 [.pt L.m 1 0 0, stAv o s] H nx K :=
  Go.view (stands_pure g ok h) (by rw [List.map_cons, List.map_cons, List.map_nil, hM.frz, frz_fit 6 (fit_st 0 o s)]) (by simp [fitL, fit_st]) trivial hK
set_option maxRecDepth 100000 in
theorem steps_bad {o : Obj} (ho : o.Wf) (h : objOk o = false) (l : List StepV) : Pure Tryz.prog 3 [o.av, .im 2 .any (l.map StepV.av)] (fun r => r = bl true) := by
  refine Go.pure Tryz.func3 nm3 low3 res3 nt3 rfl ?_
  obtain ⟨k, n, hcb⟩ := check_bad h
  repeat' (first
    | ((with_reducible refine Go.red ?_); conv => whnf)
    | (with_reducible refine Go.and ?_ ?_)
    | (with_reducible exact True.intro)
    | (with_reducible refine Go.far ?_)
    | ((with_reducible refine Apt.mk ?_); (try dsimp only); omega)
    | ((with_reducible refine Ask.mk ?_); first | exact aAsk | exact aAsk2)
    | ((with_reducible refine Go.ari64 ?_ ?_ ?_); (· exact aBnd); (· exact aBnd))
    | ((with_reducible refine Go.ariu8 ?_ ?_ ?_); (· exact aBnd); (· exact aBnd))
    | (with_reducible refine Go.ari0 ?_)
    | (apply Go.elem; (· exact aElem))
    | (apply Go.row; (· exact aRow))
    | (apply Go.gives; (· exact aGives))
    | (apply Go.gives; (· exact aRes))
    | (with_reducible refine Go.unroll ?_)
    | ((with_reducible refine Go.callW (ocopy_pure o ho) ?_ ?_); (· exact aFit))
    | ((with_reducible refine Go.callJ (fun _ => ocopy_pure o ho) ?_ ?_); (· exact aFit))
    | ((with_reducible refine Go.callE (ocopy_pure o ho) ?_ ?_); (· exact aFit))
    | ((with_reducible refine Go.callF (fun _ => ocopy_pure o ho) ?_ ?_); (· exact aFit))
    | (refine Go.gt rfl ?_)
    | (refine Go.gf rfl ?_)
    | (with_reducible refine Go.join ?_)
    | (refine Go.lt' rfl ?_)
    | (refine Go.lf' rfl ?_)
    | ((with_reducible refine Go.bool ?_ ?_) <;> intro hc <;> (try simp only [List.length_map, ne_eq, hcs] at hc) <;> try (exfalso; omega))
    | ((with_reducible refine Res.eq ?_ ?_); (· exact aFit)))
  refine Go.callN (new_bad ho h) ?_
  rintro _ H2 n2 ⟨rfl, h1, h3⟩
  have e0 : getH H2 0 = some (.row 25 5 .any [o.av]) := (h3 0 (by omega)).trans rfl
  have e5 : ∃ d, getH H2 3 = some (.row 25 5 d [o.av]) := ⟨_, (h3 3 (by omega)).trans aRow⟩
  obtain ⟨d5, e5⟩ := e5
  clear h3
  repeat' (first
    | ((with_reducible refine Go.red ?_); conv => whnf)
    | (with_reducible refine Go.and ?_ ?_)
    | (with_reducible exact True.intro)
    | (with_reducible refine Go.far ?_)
    | ((with_reducible refine Apt.mk ?_); (try dsimp only); omega)
    | ((with_reducible refine Ask.mk ?_); first | exact aAsk | exact aAsk2)
    | ((with_reducible refine Go.ari64 ?_ ?_ ?_); (· exact aBnd); (· exact aBnd))
    | ((with_reducible refine Go.ariu8 ?_ ?_ ?_); (· exact aBnd); (· exact aBnd))
    | (with_reducible refine Go.ari0 ?_)
    | (apply Go.elem; (· exact aElem))
    | (apply Go.row; (· exact aRow))
    | (apply Go.gives; (· exact aGives))
    | (apply Go.gives; (· exact aRes))
    | (with_reducible refine Go.unroll ?_)
    | ((with_reducible refine Go.callW (hcb ▸ rcheck_pure o ho) ?_ ?_); (· exact aFit))
    | ((with_reducible refine Go.callJ (fun _ => hcb ▸ rcheck_pure o ho) ?_ ?_); (· exact aFit))
    | ((with_reducible refine Go.callE (hcb ▸ rcheck_pure o ho) ?_ ?_); (· exact aFit))
    | ((with_reducible refine Go.callF (fun _ => hcb ▸ rcheck_pure o ho) ?_ ?_); (· exact aFit))
    | ((with_reducible refine Go.callW (osame_pure o ho) ?_ ?_); (· exact aFit))
    | ((with_reducible refine Go.callJ (fun _ => osame_pure o ho) ?_ ?_); (· exact aFit))
    | ((with_reducible refine Go.callE (osame_pure o ho) ?_ ?_); (· exact aFit))
    | ((with_reducible refine Go.callF (fun _ => osame_pure o ho) ?_ ?_); (· exact aFit))
    | ((with_reducible refine Go.callW (begins_pure) ?_ ?_); (· exact aFit))
    | ((with_reducible refine Go.callJ (fun _ => begins_pure) ?_ ?_); (· exact aFit))
    | ((with_reducible refine Go.callE (begins_pure) ?_ ?_); (· exact aFit))
    | ((with_reducible refine Go.callF (fun _ => begins_pure) ?_ ?_); (· exact aFit))
    | (refine Go.gt rfl ?_)
    | (refine Go.gf rfl ?_)
    | (with_reducible refine Go.join ?_)
    | (refine Go.lt' rfl ?_)
    | (refine Go.lf' rfl ?_)
    | ((with_reducible refine Go.bool ?_ ?_) <;> intro hc <;> (try simp only [List.length_map, ne_eq, hcs] at hc) <;> try (exfalso; omega))
    | ((with_reducible refine Res.eq ?_ ?_); (· exact aFit)))
  exact rfl
set_option maxHeartbeats 8000000 in
set_option maxRecDepth 100000 in
theorem steps_ok {o : Obj} (ho : o.Wf) (h : objOk o = true) (l : List StepV) (hl : l.length ≤ 1048576) : Pure Tryz.prog 3 [o.av, .im 2 .any (l.map StepV.av)] (fun r => r = bl true) := by
  refine Go.pure Tryz.func3 nm3 low3 res3 nt3 rfl ?_
  have ok := objOk_ok h
  repeat' (first
    | ((with_reducible refine Go.red ?_); conv => whnf)
    | (with_reducible refine Go.and ?_ ?_)
    | (with_reducible exact True.intro)
    | (with_reducible refine Go.far ?_)
    | ((with_reducible refine Apt.mk ?_); (try dsimp only); omega)
    | ((with_reducible refine Ask.mk ?_); first | exact aAsk | exact aAsk2)
    | ((with_reducible refine Go.ari64 ?_ ?_ ?_); (· exact aBnd); (· exact aBnd))
    | ((with_reducible refine Go.ariu8 ?_ ?_ ?_); (· exact aBnd); (· exact aBnd))
    | (with_reducible refine Go.ari0 ?_)
    | (apply Go.elem; (· exact aElem))
    | (apply Go.row; (· exact aRow))
    | (apply Go.gives; (· exact aGives))
    | (apply Go.gives; (· exact aRes))
    | (with_reducible refine Go.unroll ?_)
    | ((with_reducible refine Go.callW (ocopy_pure o ho) ?_ ?_); (· exact aFit))
    | ((with_reducible refine Go.callJ (fun _ => ocopy_pure o ho) ?_ ?_); (· exact aFit))
    | ((with_reducible refine Go.callE (ocopy_pure o ho) ?_ ?_); (· exact aFit))
    | ((with_reducible refine Go.callF (fun _ => ocopy_pure o ho) ?_ ?_); (· exact aFit))
    | (refine Go.gt rfl ?_)
    | (refine Go.gf rfl ?_)
    | (with_reducible refine Go.join ?_)
    | (refine Go.lt' rfl ?_)
    | (refine Go.lf' rfl ?_)
    | ((with_reducible refine Go.bool ?_ ?_) <;> intro hc <;> (try simp only [List.length_map, ne_eq, hcs] at hc) <;> try (exfalso; omega))
    | ((with_reducible refine Res.eq ?_ ?_); (· exact aFit)))
  refine Go.callN (new_ok ho ok h) ?_
  rintro _ H2 n2 ⟨L, rfl, hM, h1, h2, h3⟩
  have e0 : getH H2 0 = some (.row 25 5 .any [o.av]) := (h3 0 (by omega)).trans rfl
  have e5 : ∃ d, getH H2 3 = some (.row 25 5 d [o.av]) := ⟨_, (h3 3 (by omega)).trans aRow⟩
  obtain ⟨d5, e5⟩ := e5
  clear h3
  have g0 := good_init ok
  repeat' (first
    | ((with_reducible refine Go.red ?_); conv => whnf)
    | (with_reducible refine Go.and ?_ ?_)
    | (with_reducible exact True.intro)
    | (with_reducible refine Go.far ?_)
    | ((with_reducible refine Apt.mk ?_); (try dsimp only); omega)
    | ((with_reducible refine Ask.mk ?_); first | exact aAsk | exact aAsk2)
    | ((with_reducible refine Go.ari64 ?_ ?_ ?_); (· exact aBnd); (· exact aBnd))
    | ((with_reducible refine Go.ariu8 ?_ ?_ ?_); (· exact aBnd); (· exact aBnd))
    | (with_reducible refine Go.ari0 ?_)
    | (apply Go.elem; (· exact aElem))
    | (apply Go.row; (· exact aRow))
    | (apply Go.gives; (· exact aGives))
    | (apply Go.gives; (· exact aRes))
    | (with_reducible refine Go.unroll ?_)
    | ((with_reducible refine Go.callW (check_ok h ▸ rcheck_pure o ho) ?_ ?_); (· exact aFit))
    | ((with_reducible refine Go.callJ (fun _ => check_ok h ▸ rcheck_pure o ho) ?_ ?_); (· exact aFit))
    | ((with_reducible refine Go.callE (check_ok h ▸ rcheck_pure o ho) ?_ ?_); (· exact aFit))
    | ((with_reducible refine Go.callF (fun _ => check_ok h ▸ rcheck_pure o ho) ?_ ?_); (· exact aFit))
    | ((with_reducible refine Go.callW (osame_pure o ho) ?_ ?_); (· exact aFit))
    | ((with_reducible refine Go.callJ (fun _ => osame_pure o ho) ?_ ?_); (· exact aFit))
    | ((with_reducible refine Go.callE (osame_pure o ho) ?_ ?_); (· exact aFit))
    | ((with_reducible refine Go.callF (fun _ => osame_pure o ho) ?_ ?_); (· exact aFit))
    | ((with_reducible refine Go.callW (begins_pure) ?_ ?_); (· exact aFit))
    | ((with_reducible refine Go.callJ (fun _ => begins_pure) ?_ ?_); (· exact aFit))
    | ((with_reducible refine Go.callE (begins_pure) ?_ ?_); (· exact aFit))
    | ((with_reducible refine Go.callF (fun _ => begins_pure) ?_ ?_); (· exact aFit))
    | ((with_reducible refine Go.callW (rnew_pure o ho ok.cores ok.mem) ?_ ?_); (· exact aFit))
    | ((with_reducible refine Go.callJ (fun _ => rnew_pure o ho ok.cores ok.mem) ?_ ?_); (· exact aFit))
    | ((with_reducible refine Go.callE (rnew_pure o ho ok.cores ok.mem) ?_ ?_); (· exact aFit))
    | ((with_reducible refine Go.callF (fun _ => rnew_pure o ho ok.cores ok.mem) ?_ ?_); (· exact aFit))
    | (refine Go.gt rfl ?_)
    | (refine Go.gf rfl ?_)
    | (with_reducible refine Go.join ?_)
    | (refine Go.lt' rfl ?_)
    | (refine Go.lf' rfl ?_)
    | ((with_reducible refine Go.bool ?_ ?_) <;> intro hc <;> (try simp only [List.length_map, ne_eq, hcs] at hc) <;> try (exfalso; omega))
    | ((with_reducible refine Res.eq ?_ ?_); (· exact aFit)))
  refine view_stands (hM.keep aKeep aNx) g0 ok (g0.lookable ok (by simp [initM])) ?_
  repeat' (first
      | ((with_reducible refine Go.red ?_); conv => whnf)
      | (with_reducible refine Go.and ?_ ?_)
      | (with_reducible exact True.intro)
      | (with_reducible refine Go.far ?_)
      | ((with_reducible refine Apt.mk ?_); (try dsimp only); omega)
      | ((with_reducible refine Ask.mk ?_); first | exact aAsk | exact aAsk2)
      | ((with_reducible refine Go.ari64 ?_ ?_ ?_); (· exact aBnd); (· exact aBnd))
      | ((with_reducible refine Go.ariu8 ?_ ?_ ?_); (· exact aBnd); (· exact aBnd))
      | (with_reducible refine Go.ari0 ?_)
      | (apply Go.elem; (· exact aElem))
      | (apply Go.row; (· exact aRow))
      | (apply Go.gives; (· exact aGives))
      | (apply Go.gives; (· exact aRes))
      | (with_reducible refine Go.unroll ?_)
      | (refine Go.gt rfl ?_)
      | (refine Go.gf rfl ?_)
      | (with_reducible refine Go.join ?_)
      | (refine Go.lt' rfl ?_)
      | (refine Go.lf' rfl ?_)
      | ((with_reducible refine Go.bool ?_ ?_) <;> intro hc <;> (try simp only [List.length_map, ne_eq, hcs] at hc) <;> try (exfalso; omega))
      | ((with_reducible refine Res.eq ?_ ?_); (· exact aFit)))
  refine Go.loop (fun i : Nat => [(1, .im 2 .any (l.map StepV.av)), (6, .pt L.m 1 0 0), (11, .pt (n2 + 31) 1 0 0), (12, i64 i)]) (fun i H n => i ≤ l.length ∧ n2 + 32 ≤ n ∧ ∃ L', L'.m = L.m ∧ MAt o (atS o l i) L' H n ∧ n2 + 31 ∉ L'.ids ∧ ∃ d, getH H (n2 + 31) = some (.row 39 8 d [stAv o (atS o l i)])) (fun i => l.length - i) 0 aLess ⟨Nat.zero_le _, aNx, L, rfl, hM.keep aKeep aNx, fun hm => by have := hM.lt _ hm; omega, _, aRow⟩ ?_
  rintro i H n ⟨hi, hn, L', hLm, hM', ho, d31, r31⟩
  rw [← hLm]
  clear hM h2 e0 e5 g0 h1
  have hg := atS_good ok l i hi
  by_cases hil : i < l.length
  · have hg2 : Good o (doesS o l i).1 := hg.1.step ok _ _
    have hp2 : (doesS o l i).1.prints.length ≤ (atS o l i).prints.length + 1 := prints_step _ _ _ _
    repeat' (first
        | ((with_reducible refine Go.red ?_); conv => whnf)
        | (with_reducible refine Go.and ?_ ?_)
        | (with_reducible exact True.intro)
        | (with_reducible refine Go.far ?_)
        | ((with_reducible refine Apt.mk ?_); (try dsimp only); omega)
        | ((with_reducible refine Ask.mk ?_); first | exact aAsk | exact aAsk2)
        | ((with_reducible refine Go.ari64 ?_ ?_ ?_); (· exact aBnd); (· exact aBnd))
        | ((with_reducible refine Go.ariu8 ?_ ?_ ?_); (· exact aBnd); (· exact aBnd))
        | (with_reducible refine Go.ari0 ?_)
        | (apply Go.elem; (· (first | exact getD_av _ _ _ _ hil | exact aElem)))
        | (apply Go.row; (· exact aRow))
        | (apply Go.gives; (· exact aGives))
        | (apply Go.gives; (· exact aRes))
        | (with_reducible refine Go.unroll ?_)
        | ((with_reducible refine Go.callW (rstepV hg.1 ok (by omega) _) ?_ ?_); (· exact aFit))
        | ((with_reducible refine Go.callJ (fun _ => rstepV hg.1 ok (by omega) _) ?_ ?_); (· exact aFit))
        | ((with_reducible refine Go.callE (rstepV hg.1 ok (by omega) _) ?_ ?_); (· exact aFit))
        | ((with_reducible refine Go.callF (fun _ => rstepV hg.1 ok (by omega) _) ?_ ?_); (· exact aFit))
        | (refine Go.gt rfl ?_)
        | (refine Go.gf rfl ?_)
        | (with_reducible refine Go.join ?_)
        | (refine Go.lt' rfl ?_)
        | (refine Go.lf' rfl ?_)
        | ((with_reducible refine Go.bool ?_ ?_) <;> intro hc <;> (try simp only [List.length_map, ne_eq, hcs] at hc) <;> try (exfalso; omega))
        | ((with_reducible refine Res.eq ?_ ?_); (· exact aFit)))
    · refine Go.callN (run_as (hM'.keep aKeep aNx) hg.1 ok (by omega) _ _ hc.2) ?_
      rintro _ H3 n3 ⟨rfl, hn3, ⟨L3, hM3, hmv⟩, hfr3⟩
      have hn4 : n + 21 ≤ n3 := Nat.le_trans aNx hn3
      have r31b : getH H3 (n2 + 31) = some (.row 39 8 d31 [stAv o (atS o l i)]) := (hfr3 _ aNx ho).trans aRow
      have hid : ∀ b, n ≤ b → b ∉ L'.ids := fun b hb hm => by have := hM'.lt _ hm; omega
      have r13 : ∃ d, getH H3 (n + 14) = some (.row 39 8 d [stAv o (doesS o l i).1]) := ⟨_, (hfr3 _ aNx (hid _ (by omega))).trans aRow⟩
      have r14 : ∃ d, getH H3 (n + 15) = some (.row 44 7 d [(doesS o l i).2.1.av]) := ⟨_, (hfr3 _ aNx (hid _ (by omega))).trans aRow⟩
      have r16 : ∃ d e, getH H3 (n + 20) = some (.row 44 7 d [.agg e]) ∧ e.length = 7 := ⟨_, _, (hfr3 _ aNx (hid _ (by omega))).trans aRow, rfl⟩
      obtain ⟨d13, r13⟩ := r13
      obtain ⟨d14, r14⟩ := r14
      obtain ⟨d16, e16, r16, he16⟩ := r16
      have hids : ∀ b, b ∈ L3.ids → b ∈ L'.ids ∨ n + 21 ≤ b := fun b hb => (hmv.ids b hb).imp id (fun hh => Nat.le_trans aNx hh)
      have ho3 : n2 + 31 ∉ L3.ids := fun hm => (hids _ hm).elim ho (fun hh => by omega)
      have hmm := hmv.m
      rw [← hmm]
      clear hfr3 hmv hn3
      have hk3 : ∀ x, x ∈ L3.ids → x ≠ n + 20 ∧ x ≠ n2 + 31 ∧ x < n3 := fun x hx => ⟨fun h => (hids _ hx).elim (fun hh => hid _ (by omega) hh) (fun hh => by omega), fun h => ho3 (h ▸ hx), hM3.lt _ hx⟩
      repeat' (first
          | ((with_reducible refine Go.red ?_); conv => whnf)
          | (with_reducible refine Go.and ?_ ?_)
          | (with_reducible exact True.intro)
          | (with_reducible refine Go.far ?_)
          | ((with_reducible refine Apt.mk ?_); (try dsimp only); omega)
          | ((with_reducible refine Ask.mk ?_); first | exact aAsk | exact aAsk2)
          | ((with_reducible refine Go.ari64 ?_ ?_ ?_); (· exact aBnd); (· exact aBnd))
          | ((with_reducible refine Go.ariu8 ?_ ?_ ?_); (· exact aBnd); (· exact aBnd))
          | (with_reducible refine Go.ari0 ?_)
          | (apply Go.elem; (· exact aElem))
          | (apply Go.row; (· exact aRow))
          | (apply Go.gives; (· exact aGives))
          | (apply Go.gives; (· exact aRes))
          | (with_reducible refine Go.unroll ?_)
          | (refine Go.gt rfl ?_)
          | (refine Go.gf rfl ?_)
          | (with_reducible refine Go.join ?_)
          | (refine Go.lt' rfl ?_)
          | (refine Go.lf' rfl ?_)
          | ((with_reducible refine Go.bool ?_ ?_) <;> intro hc <;> (try simp only [List.length_map, ne_eq, hcs] at hc) <;> try (exfalso; omega))
          | ((with_reducible refine Res.eq ?_ ?_); (· exact aFit)))
      refine Go.viewJ (args2 := [(doesS o l i).1.frozen o, stAv o (doesS o l i).1]) (r := bl true) (fun _ => stands_pure hg2 ok (hg2.lookable ok (by omega))) ?_ ?_ trivial ?_
      · exact stands_args hM3 (fun x hx => by obtain ⟨g1, g2, g3⟩ := hk3 x hx; exact aSkip)
      · simp [fitL, fit_st]
      repeat' (first
          | ((with_reducible refine Go.red ?_); conv => whnf)
          | (with_reducible refine Go.and ?_ ?_)
          | (with_reducible exact True.intro)
          | (with_reducible refine Go.far ?_)
          | ((with_reducible refine Apt.mk ?_); (try dsimp only); omega)
          | ((with_reducible refine Ask.mk ?_); first | exact aAsk | exact aAsk2)
          | ((with_reducible refine Go.ari64 ?_ ?_ ?_); (· exact aBnd); (· exact aBnd))
          | ((with_reducible refine Go.ariu8 ?_ ?_ ?_); (· exact aBnd); (· exact aBnd))
          | (with_reducible refine Go.ari0 ?_)
          | (apply Go.elem; (· exact aElem))
          | (apply Go.row; (· exact aRow))
          | (apply Go.gives; (· exact aGives))
          | (apply Go.gives; (· exact aRes))
          | (with_reducible refine Go.unroll ?_)
          | (refine Go.gt rfl ?_)
          | (refine Go.gf rfl ?_)
          | (with_reducible refine Go.join ?_)
          | (refine Go.lt' rfl ?_)
          | (refine Go.lf' rfl ?_)
          | ((with_reducible refine Go.bool ?_ ?_) <;> intro hc <;> (try simp only [List.length_map, ne_eq, hcs] at hc) <;> try (exfalso; omega))
          | ((with_reducible refine Res.eq ?_ ?_); (· exact aFit)))
      · exfalso
        simp [doesS] at hc
      · refine ⟨i + 1, by omega, aLess, by omega, aNx, L3, rfl, ?_, ho3, ?_⟩
        · rw [atS_next hil]
          exact hM3.keepIds (fun x hx => by obtain ⟨g1, g2, g3⟩ := hk3 x hx; exact aSkip) aNx
        · rw [atS_next hil]
          exact ⟨_, aRow⟩
    · refine Go.callN (drain_as (hM'.keep aKeep aNx) hg.1 ok _ _ hc.2) ?_
      rintro _ H3 n3 ⟨rfl, hn3, ⟨L3, hM3, hmv⟩, hfr3⟩
      have hn4 : n + 21 ≤ n3 := Nat.le_trans aNx hn3
      have r31b : getH H3 (n2 + 31) = some (.row 39 8 d31 [stAv o (atS o l i)]) := (hfr3 _ aNx ho).trans aRow
      have hid : ∀ b, n ≤ b → b ∉ L'.ids := fun b hb hm => by have := hM'.lt _ hm; omega
      have r13 : ∃ d, getH H3 (n + 14) = some (.row 39 8 d [stAv o (doesS o l i).1]) := ⟨_, (hfr3 _ aNx (hid _ (by omega))).trans aRow⟩
      have r14 : ∃ d, getH H3 (n + 15) = some (.row 44 7 d [(doesS o l i).2.1.av]) := ⟨_, (hfr3 _ aNx (hid _ (by omega))).trans aRow⟩
      have r16 : ∃ d e, getH H3 (n + 20) = some (.row 44 7 d [.agg e]) ∧ e.length = 7 := ⟨_, _, (hfr3 _ aNx (hid _ (by omega))).trans aRow, rfl⟩
      obtain ⟨d13, r13⟩ := r13
      obtain ⟨d14, r14⟩ := r14
      obtain ⟨d16, e16, r16, he16⟩ := r16
      have hids : ∀ b, b ∈ L3.ids → b ∈ L'.ids ∨ n + 21 ≤ b := fun b hb => (hmv.ids b hb).imp id (fun hh => Nat.le_trans aNx hh)
      have ho3 : n2 + 31 ∉ L3.ids := fun hm => (hids _ hm).elim ho (fun hh => by omega)
      have hmm := hmv.m
      rw [← hmm]
      clear hfr3 hmv hn3
      have hk3 : ∀ x, x ∈ L3.ids → x ≠ n + 20 ∧ x ≠ n2 + 31 ∧ x < n3 := fun x hx => ⟨fun h => (hids _ hx).elim (fun hh => hid _ (by omega) hh) (fun hh => by omega), fun h => ho3 (h ▸ hx), hM3.lt _ hx⟩
      repeat' (first
          | ((with_reducible refine Go.red ?_); conv => whnf)
          | (with_reducible refine Go.and ?_ ?_)
          | (with_reducible exact True.intro)
          | (with_reducible refine Go.far ?_)
          | ((with_reducible refine Apt.mk ?_); (try dsimp only); omega)
          | ((with_reducible refine Ask.mk ?_); first | exact aAsk | exact aAsk2)
          | ((with_reducible refine Go.ari64 ?_ ?_ ?_); (· exact aBnd); (· exact aBnd))
          | ((with_reducible refine Go.ariu8 ?_ ?_ ?_); (· exact aBnd); (· exact aBnd))
          | (with_reducible refine Go.ari0 ?_)
          | (apply Go.elem; (· exact aElem))
          | (apply Go.row; (· exact aRow))
          | (apply Go.gives; (· exact aGives))
          | (apply Go.gives; (· exact aRes))
          | (with_reducible refine Go.unroll ?_)
          | (refine Go.gt rfl ?_)
          | (refine Go.gf rfl ?_)
          | (with_reducible refine Go.join ?_)
          | (refine Go.lt' rfl ?_)
          | (refine Go.lf' rfl ?_)
          | ((with_reducible refine Go.bool ?_ ?_) <;> intro hc <;> (try simp only [List.length_map, ne_eq, hcs] at hc) <;> try (exfalso; omega))
          | ((with_reducible refine Res.eq ?_ ?_); (· exact aFit)))
      refine Go.viewJ (args2 := [(doesS o l i).1.frozen o, stAv o (doesS o l i).1]) (r := bl true) (fun _ => stands_pure hg2 ok (hg2.lookable ok (by omega))) ?_ ?_ trivial ?_
      · exact stands_args hM3 (fun x hx => by obtain ⟨g1, g2, g3⟩ := hk3 x hx; exact aSkip)
      · simp [fitL, fit_st]
      repeat' (first
          | ((with_reducible refine Go.red ?_); conv => whnf)
          | (with_reducible refine Go.and ?_ ?_)
          | (with_reducible exact True.intro)
          | (with_reducible refine Go.far ?_)
          | ((with_reducible refine Apt.mk ?_); (try dsimp only); omega)
          | ((with_reducible refine Ask.mk ?_); first | exact aAsk | exact aAsk2)
          | ((with_reducible refine Go.ari64 ?_ ?_ ?_); (· exact aBnd); (· exact aBnd))
          | ((with_reducible refine Go.ariu8 ?_ ?_ ?_); (· exact aBnd); (· exact aBnd))
          | (with_reducible refine Go.ari0 ?_)
          | (apply Go.elem; (· exact aElem))
          | (apply Go.row; (· exact aRow))
          | (apply Go.gives; (· exact aGives))
          | (apply Go.gives; (· exact aRes))
          | (with_reducible refine Go.unroll ?_)
          | (refine Go.gt rfl ?_)
          | (refine Go.gf rfl ?_)
          | (with_reducible refine Go.join ?_)
          | (refine Go.lt' rfl ?_)
          | (refine Go.lf' rfl ?_)
          | ((with_reducible refine Go.bool ?_ ?_) <;> intro hc <;> (try simp only [List.length_map, ne_eq, hcs] at hc) <;> try (exfalso; omega))
          | ((with_reducible refine Res.eq ?_ ?_); (· exact aFit)))
      · exfalso
        simp [doesS] at hc
      · refine ⟨i + 1, by omega, aLess, by omega, aNx, L3, rfl, ?_, ho3, ?_⟩
        · rw [atS_next hil]
          exact hM3.keepIds (fun x hx => by obtain ⟨g1, g2, g3⟩ := hk3 x hx; exact aSkip) aNx
        · rw [atS_next hil]
          exact ⟨_, aRow⟩
    · refine Go.callN (step_call (hM'.keep aKeep aNx) hg.1 ok (by omega) _ _) ?_
      rintro _ H3 n3 ⟨rfl, hn3, ⟨L3, hM3, hmv⟩, hfr3⟩
      have hn4 : n + 21 ≤ n3 := Nat.le_trans aNx hn3
      have r31b : getH H3 (n2 + 31) = some (.row 39 8 d31 [stAv o (atS o l i)]) := (hfr3 _ aNx ho).trans aRow
      have hid : ∀ b, n ≤ b → b ∉ L'.ids := fun b hb hm => by have := hM'.lt _ hm; omega
      have r13 : ∃ d, getH H3 (n + 14) = some (.row 39 8 d [stAv o (doesS o l i).1]) := ⟨_, (hfr3 _ aNx (hid _ (by omega))).trans aRow⟩
      have r14 : ∃ d, getH H3 (n + 15) = some (.row 44 7 d [(doesS o l i).2.1.av]) := ⟨_, (hfr3 _ aNx (hid _ (by omega))).trans aRow⟩
      have r16 : ∃ d e, getH H3 (n + 20) = some (.row 44 7 d [.agg e]) ∧ e.length = 7 := ⟨_, _, (hfr3 _ aNx (hid _ (by omega))).trans aRow, rfl⟩
      obtain ⟨d13, r13⟩ := r13
      obtain ⟨d14, r14⟩ := r14
      obtain ⟨d16, e16, r16, he16⟩ := r16
      have hids : ∀ b, b ∈ L3.ids → b ∈ L'.ids ∨ n + 21 ≤ b := fun b hb => (hmv.ids b hb).imp id (fun hh => Nat.le_trans aNx hh)
      have ho3 : n2 + 31 ∉ L3.ids := fun hm => (hids _ hm).elim ho (fun hh => by omega)
      have hmm := hmv.m
      rw [← hmm]
      clear hfr3 hmv hn3
      have hk3 : ∀ x, x ∈ L3.ids → x ≠ n + 20 ∧ x ≠ n2 + 31 ∧ x < n3 := fun x hx => ⟨fun h => (hids _ hx).elim (fun hh => hid _ (by omega) hh) (fun hh => by omega), fun h => ho3 (h ▸ hx), hM3.lt _ hx⟩
      repeat' (first
          | ((with_reducible refine Go.red ?_); conv => whnf)
          | (with_reducible refine Go.and ?_ ?_)
          | (with_reducible exact True.intro)
          | (with_reducible refine Go.far ?_)
          | ((with_reducible refine Apt.mk ?_); (try dsimp only); omega)
          | ((with_reducible refine Ask.mk ?_); first | exact aAsk | exact aAsk2)
          | ((with_reducible refine Go.ari64 ?_ ?_ ?_); (· exact aBnd); (· exact aBnd))
          | ((with_reducible refine Go.ariu8 ?_ ?_ ?_); (· exact aBnd); (· exact aBnd))
          | (with_reducible refine Go.ari0 ?_)
          | (apply Go.elem; (· exact aElem))
          | (apply Go.row; (· exact aRow))
          | (apply Go.gives; (· exact aGives))
          | (apply Go.gives; (· exact aRes))
          | (with_reducible refine Go.unroll ?_)
          | (refine Go.gt rfl ?_)
          | (refine Go.gf rfl ?_)
          | (with_reducible refine Go.join ?_)
          | (refine Go.lt' rfl ?_)
          | (refine Go.lf' rfl ?_)
          | ((with_reducible refine Go.bool ?_ ?_) <;> intro hc <;> (try simp only [List.length_map, ne_eq, hcs] at hc) <;> try (exfalso; omega))
          | ((with_reducible refine Res.eq ?_ ?_); (· exact aFit)))
      refine Go.viewJ (args2 := [(doesS o l i).1.frozen o, stAv o (doesS o l i).1]) (r := bl true) (fun _ => stands_pure hg2 ok (hg2.lookable ok (by omega))) ?_ ?_ trivial ?_
      · exact stands_args hM3 (fun x hx => by obtain ⟨g1, g2, g3⟩ := hk3 x hx; exact aSkip)
      · simp [fitL, fit_st]
      repeat' (first
          | ((with_reducible refine Go.red ?_); conv => whnf)
          | (with_reducible refine Go.and ?_ ?_)
          | (with_reducible exact True.intro)
          | (with_reducible refine Go.far ?_)
          | ((with_reducible refine Apt.mk ?_); (try dsimp only); omega)
          | ((with_reducible refine Ask.mk ?_); first | exact aAsk | exact aAsk2)
          | ((with_reducible refine Go.ari64 ?_ ?_ ?_); (· exact aBnd); (· exact aBnd))
          | ((with_reducible refine Go.ariu8 ?_ ?_ ?_); (· exact aBnd); (· exact aBnd))
          | (with_reducible refine Go.ari0 ?_)
          | (apply Go.elem; (· exact aElem))
          | (apply Go.row; (· exact aRow))
          | (apply Go.gives; (· exact aGives))
          | (apply Go.gives; (· exact aRes))
          | (with_reducible refine Go.unroll ?_)
          | (refine Go.gt rfl ?_)
          | (refine Go.gf rfl ?_)
          | (with_reducible refine Go.join ?_)
          | (refine Go.lt' rfl ?_)
          | (refine Go.lf' rfl ?_)
          | ((with_reducible refine Go.bool ?_ ?_) <;> intro hc <;> (try simp only [List.length_map, ne_eq, hcs] at hc) <;> try (exfalso; omega))
          | ((with_reducible refine Res.eq ?_ ?_); (· exact aFit)))
      · exfalso
        simp [doesS] at hc
      · refine ⟨i + 1, by omega, aLess, by omega, aNx, L3, rfl, ?_, ho3, ?_⟩
        · rw [atS_next hil]
          exact hM3.keepIds (fun x hx => by obtain ⟨g1, g2, g3⟩ := hk3 x hx; exact aSkip) aNx
        · rw [atS_next hil]
          exact ⟨_, aRow⟩
  · repeat' (first
        | ((with_reducible refine Go.red ?_); conv => whnf)
        | (with_reducible refine Go.and ?_ ?_)
        | (with_reducible exact True.intro)
        | (with_reducible refine Go.far ?_)
        | ((with_reducible refine Apt.mk ?_); (try dsimp only); omega)
        | ((with_reducible refine Ask.mk ?_); first | exact aAsk | exact aAsk2)
        | ((with_reducible refine Go.ari64 ?_ ?_ ?_); (· exact aBnd); (· exact aBnd))
        | ((with_reducible refine Go.ariu8 ?_ ?_ ?_); (· exact aBnd); (· exact aBnd))
        | (with_reducible refine Go.ari0 ?_)
        | (apply Go.elem; (· exact aElem))
        | (apply Go.row; (· exact aRow))
        | (apply Go.gives; (· exact aGives))
        | (apply Go.gives; (· exact aRes))
        | (with_reducible refine Go.unroll ?_)
        | ((with_reducible refine Go.callW (begins_pure) ?_ ?_); (· exact aFit))
        | ((with_reducible refine Go.callJ (fun _ => begins_pure) ?_ ?_); (· exact aFit))
        | ((with_reducible refine Go.callE (begins_pure) ?_ ?_); (· exact aFit))
        | ((with_reducible refine Go.callF (fun _ => begins_pure) ?_ ?_); (· exact aFit))
        | (refine Go.gt rfl ?_)
        | (refine Go.gf rfl ?_)
        | (with_reducible refine Go.join ?_)
        | (refine Go.lt' rfl ?_)
        | (refine Go.lf' rfl ?_)
        | ((with_reducible refine Go.bool ?_ ?_) <;> intro hc <;> (try simp only [List.length_map, ne_eq, hcs] at hc) <;> try (exfalso; omega))
        | ((with_reducible refine Res.eq ?_ ?_); (· exact aFit)))
    exact rfl
end Go.Proofs.YtliabecchkolgaaGreat
