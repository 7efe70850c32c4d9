/- Executions that are the same; the law OrderChecks. -/
import Derived.Test.YtncllkpekbapjaaOy
namespace Go.Proofs.Ytncllkpekbapjaa
open Go Go.Abs Go.Proofs
set_option linter.unusedSimpArgs false
set_option linter.unusedVariables false

set_option maxHeartbeats 2000000 in
theorem wordsEq_pure (l m : List Int) (hl : l.length * 8 ≤ 140737488351232) (hm : m.length * 8 ≤ 140737488351232) : Pure Try.prog 38 [imI l, imI m] (fun r => r = bl (decide (l = m))) := by
  refine Go.pure Try.func38 nm38 low38 res38 nt38 rfl ?_
  repeat' (first
    | ((with_reducible refine Go.red ?_); conv => whnf)
    | (with_reducible refine Go.and ?_ ?_)
    | (with_reducible exact True.intro)
    | (with_reducible refine Go.far ?_)
    | ((with_reducible refine Apt.mk ?_); (try dsimp only); omega)
    | (with_reducible exact Go.askRep)
    | ((with_reducible refine Ask.mk ?_); first | exact aAsk | exact aAsk2)
    | ((with_reducible refine Go.ari64 ?_ ?_ ?_); (· exact aBnd); (· exact aBnd))
    | ((with_reducible refine Go.ariu8 ?_ ?_ ?_); (· exact aBnd); (· exact aBnd))
    | (with_reducible refine Go.ari0 ?_)
    | (apply Go.elem; (· (first | exact int_get | exact aElem)))
    | (apply Go.row; (· exact aRow))
    | (apply Go.map; (· exact aRow))
    | (apply Go.gives; (· exact aGives))
    | (apply Go.gives; (· exact aRes))
    | (with_reducible refine Go.unroll ?_)
    | (with_reducible refine Go.drawn ?_)
    | (refine Go.gt rfl ?_)
    | (refine Go.gf rfl ?_)
    | (with_reducible refine Go.join ?_)
    | (refine Go.lt' rfl ?_)
    | (refine Go.lf' rfl ?_)
    | ((with_reducible refine Go.bool ?_ ?_) <;> intro hc <;> (try simp only [List.length_map, ne_eq, hcs] at hc) <;> try (exfalso; omega))
    | ((with_reducible refine Res.eq ?_ ?_); (· exact aFit)))
  · refine bl_eq (Eq.symm ?_)
    exact decide_eq_false fun e => hc (by rw [e])
  · have hlm : l.length = m.length := by omega
    refine Go.loop (fun i : Nat => [(0, imI l), (1, imI m), (5, i64 i)])
      (fun i H n => i ≤ l.length ∧ ∀ j, j < i → l.getD j 0 = m.getD j 0) (fun i => l.length - i) 0 aLess ⟨Nat.zero_le _, fun _ h => by omega⟩ ?_
    rintro i H n ⟨hi, hall⟩
    by_cases hil : i < l.length
    · repeat' (first
          | ((with_reducible refine Go.red ?_); conv => whnf)
          | (with_reducible refine Go.and ?_ ?_)
          | (with_reducible exact True.intro)
          | (with_reducible refine Go.far ?_)
          | ((with_reducible refine Apt.mk ?_); (try dsimp only); omega)
          | (with_reducible exact Go.askRep)
          | ((with_reducible refine Ask.mk ?_); first | exact aAsk | exact aAsk2)
          | ((with_reducible refine Go.ari64 ?_ ?_ ?_); (· exact aBnd); (· exact aBnd))
          | ((with_reducible refine Go.ariu8 ?_ ?_ ?_); (· exact aBnd); (· exact aBnd))
          | (with_reducible refine Go.ari0 ?_)
          | (apply Go.elem; (· (first | exact int_get | exact aElem)))
          | (apply Go.row; (· exact aRow))
          | (apply Go.map; (· exact aRow))
          | (apply Go.gives; (· exact aGives))
          | (apply Go.gives; (· exact aRes))
          | (with_reducible refine Go.unroll ?_)
          | (with_reducible refine Go.drawn ?_)
          | (simp only [Int.toNat_natCast])
          | (refine Go.gt rfl ?_)
          | (refine Go.gf rfl ?_)
          | (with_reducible refine Go.join ?_)
          | (refine Go.lt' rfl ?_)
          | (refine Go.lf' rfl ?_)
          | ((with_reducible refine Go.bool ?_ ?_) <;> intro hc <;> (try simp only [List.length_map, ne_eq, hcs] at hc) <;> try (exfalso; omega))
          | ((with_reducible refine Res.eq ?_ ?_); (· exact aFit)))
      · refine bl_eq (Eq.symm ?_)
        exact decide_eq_false fun e => hc (by rw [e])
      · refine ⟨i + 1, by omega, aLess, by omega, fun j hj => ?_⟩
        by_cases hji : j = i
        · subst hji; exact hc
        · exact hall j (by omega)
    · have : i = l.length := by omega
      subst this
      repeat' (first
          | ((with_reducible refine Go.red ?_); conv => whnf)
          | (with_reducible refine Go.and ?_ ?_)
          | (with_reducible exact True.intro)
          | (with_reducible refine Go.far ?_)
          | ((with_reducible refine Apt.mk ?_); (try dsimp only); omega)
          | (with_reducible exact Go.askRep)
          | ((with_reducible refine Ask.mk ?_); first | exact aAsk | exact aAsk2)
          | ((with_reducible refine Go.ari64 ?_ ?_ ?_); (· exact aBnd); (· exact aBnd))
          | ((with_reducible refine Go.ariu8 ?_ ?_ ?_); (· exact aBnd); (· exact aBnd))
          | (with_reducible refine Go.ari0 ?_)
          | (apply Go.elem; (· (first | exact int_get | exact aElem)))
          | (apply Go.row; (· exact aRow))
          | (apply Go.map; (· exact aRow))
          | (apply Go.gives; (· exact aGives))
          | (apply Go.gives; (· exact aRes))
          | (with_reducible refine Go.unroll ?_)
          | (with_reducible refine Go.drawn ?_)
          | (refine Go.gt rfl ?_)
          | (refine Go.gf rfl ?_)
          | (with_reducible refine Go.join ?_)
          | (refine Go.lt' rfl ?_)
          | (refine Go.lf' rfl ?_)
          | ((with_reducible refine Go.bool ?_ ?_) <;> intro hc <;> (try simp only [List.length_map, ne_eq, hcs] at hc) <;> try (exfalso; omega))
          | ((with_reducible refine Res.eq ?_ ?_); (· exact aFit)))
      refine bl_eq (Eq.symm ?_)
      refine decide_eq_true (List.ext_getElem hlm fun j h1 h2 => ?_)
      have := hall j h1
      simpa [List.getD, h1, h2] using this
theorem ext_getD {α : Type} {l m : List α} (d : α) (hl : l.length = m.length) (h : ∀ j, j < l.length → l.getD j d = m.getD j d) : l = m :=
  List.ext_getElem hl fun j h1 h2 => by have := h j h1; simpa [List.getD, h1, h2] using this
set_option maxHeartbeats 4000000 in
theorem same_pure (x y : Exec) (hx : x.Wf) (hy : y.Wf) : Pure Try.prog 18 [x.av, y.av] (fun r => r = bl (decide (x = y))) := by
  refine Go.pure Try.func18 nm18 low18 res18 nt18 rfl ?_
  have hI := ints_pure x.frm y.frm hx.frmlen hy.frmlen
  have hW := wordsEq_pure x.first y.first hx.firstlen hy.firstlen
  have x1 := hx.eventslen
  have x2 := hx.afterlen
  have y1 := hy.eventslen
  have y2 := hy.afterlen
  repeat' (first
    | ((with_reducible refine Go.red ?_); conv => whnf)
    | (with_reducible refine Go.and ?_ ?_)
    | (with_reducible exact True.intro)
    | (with_reducible refine Go.far ?_)
    | ((with_reducible refine Apt.mk ?_); (try dsimp only); omega)
    | (with_reducible exact Go.askRep)
    | ((with_reducible refine Ask.mk ?_); first | exact aAsk | exact aAsk2 | (intro h; simp_all [Exec.cells, Deed.cells] <;> fail) | (simp_all [Exec.cells, Deed.cells] <;> fail))
    | ((with_reducible refine Go.ari64 ?_ ?_ ?_); (· exact aBnd); (· exact aBnd))
    | ((with_reducible refine Go.ariu8 ?_ ?_ ?_); (· exact aBnd); (· exact aBnd))
    | (with_reducible refine Go.ari0 ?_)
    | (apply Go.elem; (· (first | exact ev_get | exact lst_get | exact aElem)))
    | (apply Go.row; (· exact aRow))
    | (apply Go.map; (· exact aRow))
    | (apply Go.gives; (· exact aGives))
    | (apply Go.gives; (· exact aRes))
    | (with_reducible refine Go.unroll ?_)
    | (with_reducible refine Go.drawn ?_)
    | ((with_reducible refine Go.callW (hI) ?_ ?_); (· exact aFit))
    | ((with_reducible refine Go.callJ (fun _ => hI) ?_ ?_); (· exact aFit))
    | ((with_reducible refine Go.callE (hI) ?_ ?_); (· exact aFit))
    | ((with_reducible refine Go.callF (fun _ => hI) ?_ ?_); (· exact aFit))
    | ((with_reducible refine Go.callW (hW) ?_ ?_); (· exact aFit))
    | ((with_reducible refine Go.callJ (fun _ => hW) ?_ ?_); (· exact aFit))
    | ((with_reducible refine Go.callE (hW) ?_ ?_); (· exact aFit))
    | ((with_reducible refine Go.callF (fun _ => hW) ?_ ?_); (· exact aFit))
    | (refine Go.gt rfl ?_)
    | (refine Go.gf rfl ?_)
    | (with_reducible refine Go.join ?_)
    | (refine Go.lt' rfl ?_)
    | (refine Go.lf' rfl ?_)
    | ((with_reducible refine Go.bool ?_ ?_) <;> intro hc <;> (try simp only [List.length_map, ne_eq, hcs] at hc) <;> try (exfalso; omega))
    | ((with_reducible refine Res.eq ?_ ?_); (· exact aFit)))
  · refine bl_eq (Eq.symm (decide_eq_false ?_))
    rintro rfl
    simp at hc
  have hne : x.events.length = y.events.length ∧ x.after.length = y.after.length ∧ x.frm = y.frm ∧ x.first = y.first := by
    obtain ⟨h1, h2⟩ := hc
    refine ⟨?_, ?_, ?_, h2⟩
    · exact Decidable.byContradiction fun h => h1 (.inl (.inl (by omega)))
    · exact Decidable.byContradiction fun h => h1 (.inl (.inr (by omega)))
    · exact Decidable.byContradiction fun h => h1 (.inr h)
  obtain ⟨e1, e2, e3, e4⟩ := hne
  refine Go.loop (fun i : Nat => [(2, .pt 0 1 0 0), (3, .pt 1 1 0 0), (5, i64 i)])
    (fun i H n => i ≤ x.events.length ∧ 2 ≤ n ∧ getH H 0 = some (.row 27 4 .any [x.av]) ∧ getH H 1 = some (.row 27 4 .any [y.av]) ∧ ∀ j, j < i → x.ev j = y.ev j) (fun i => x.events.length - i) 0 aLess ⟨Nat.zero_le _, aNx, aRow, aRow, fun _ h => by omega⟩ ?_
  rintro i H n ⟨hi, hn, r0, r1, hall⟩
  by_cases hil : i < x.events.length
  · repeat' (first
        | ((with_reducible refine Go.red ?_); conv => whnf)
        | (with_reducible refine Go.and ?_ ?_)
        | (with_reducible exact True.intro)
        | (with_reducible refine Go.far ?_)
        | ((with_reducible refine Apt.mk ?_); (try dsimp only); omega)
        | (with_reducible exact Go.askRep)
        | ((with_reducible refine Ask.mk ?_); first | exact aAsk | exact aAsk2 | (intro h; simp_all [Exec.cells, Deed.cells] <;> fail) | (simp_all [Exec.cells, Deed.cells] <;> fail))
        | ((with_reducible refine Go.ari64 ?_ ?_ ?_); (· exact aBnd); (· exact aBnd))
        | ((with_reducible refine Go.ariu8 ?_ ?_ ?_); (· exact aBnd); (· exact aBnd))
        | (with_reducible refine Go.ari0 ?_)
        | (apply Go.elem; (· (first | exact ev_get | exact aElem)))
        | (apply Go.row; (· exact aRow))
        | (apply Go.map; (· exact aRow))
        | (apply Go.gives; (· exact aGives))
        | (apply Go.gives; (· exact aRes))
        | (with_reducible refine Go.unroll ?_)
        | (with_reducible refine Go.drawn ?_)
        | (refine Go.gt rfl ?_)
        | (refine Go.gf rfl ?_)
        | (with_reducible refine Go.join ?_)
        | (refine Go.lt' rfl ?_)
        | (refine Go.lf' rfl ?_)
        | ((with_reducible refine Go.bool ?_ ?_) <;> intro hc <;> (try simp only [List.length_map, ne_eq, hcs] at hc) <;> try (exfalso; omega))
        | ((with_reducible refine Res.eq ?_ ?_); (· exact aFit)))
    · refine bl_eq (Eq.symm (decide_eq_false ?_))
      rintro rfl
      simp at hc
    · refine ⟨i + 1, by omega, aLess, by omega, aNx, aRow, aRow, fun j hj => ?_⟩
      by_cases hji : j = i
      · subst hji
        generalize x.ev j = p at *
        generalize y.ev j = q at *
        cases p; cases q
        simp only [Deed.mk.injEq] at *
        exact ⟨hc.1, hc.2.1, hc.2.2.1, hc.2.2.2.1, hc.2.2.2.2.1⟩
      · exact hall j (by omega)
  · have hil : i = x.events.length := by omega
    subst hil
    have hev : x.events = y.events := ext_getD default e1 hall
    repeat' (first
        | ((with_reducible refine Go.red ?_); conv => whnf)
        | (with_reducible refine Go.and ?_ ?_)
        | (with_reducible exact True.intro)
        | (with_reducible refine Go.far ?_)
        | ((with_reducible refine Apt.mk ?_); (try dsimp only); omega)
        | (with_reducible exact Go.askRep)
        | ((with_reducible refine Ask.mk ?_); first | exact aAsk | exact aAsk2 | (intro h; simp_all [Exec.cells] <;> fail) | (simp_all [Exec.cells] <;> fail))
        | ((with_reducible refine Go.ari64 ?_ ?_ ?_); (· exact aBnd); (· exact aBnd))
        | ((with_reducible refine Go.ariu8 ?_ ?_ ?_); (· exact aBnd); (· exact aBnd))
        | (with_reducible refine Go.ari0 ?_)
        | (apply Go.elem; (· (first | exact lst_get | exact aElem)))
        | (apply Go.row; (· exact aRow))
        | (apply Go.map; (· exact aRow))
        | (apply Go.gives; (· exact aGives))
        | (apply Go.gives; (· exact aRes))
        | (with_reducible refine Go.unroll ?_)
        | (with_reducible refine Go.drawn ?_)
        | (refine Go.gt rfl ?_)
        | (refine Go.gf rfl ?_)
        | (with_reducible refine Go.join ?_)
        | (refine Go.lt' rfl ?_)
        | (refine Go.lf' rfl ?_)
        | ((with_reducible refine Go.bool ?_ ?_) <;> intro hc <;> (try simp only [List.length_map, ne_eq, hcs] at hc) <;> try (exfalso; omega))
        | ((with_reducible refine Res.eq ?_ ?_); (· exact aFit)))
    refine Go.loop (fun i : Nat => [(2, .pt 0 1 0 0), (3, .pt 1 1 0 0), (6, i64 i)])
      (fun i H n => i ≤ x.after.length ∧ 2 ≤ n ∧ getH H 0 = some (.row 27 4 .any [x.av]) ∧ getH H 1 = some (.row 27 4 .any [y.av]) ∧ ∀ j, j < i → x.af j = y.af j) (fun i => x.after.length - i) 0 aLess ⟨Nat.zero_le _, aNx, aRow, aRow, fun _ h => by omega⟩ ?_
    rintro i H n ⟨hi, hn, r0, r1, hall2⟩
    by_cases hil : i < x.after.length
    · have hI2 := ints_pure (x.af i) (y.af i) (af_len hx i) (af_len hy i)
      repeat' (first
          | ((with_reducible refine Go.red ?_); conv => whnf)
          | (with_reducible refine Go.and ?_ ?_)
          | (with_reducible exact True.intro)
          | (with_reducible refine Go.far ?_)
          | ((with_reducible refine Apt.mk ?_); (try dsimp only); omega)
          | (with_reducible exact Go.askRep)
          | ((with_reducible refine Ask.mk ?_); first | exact aAsk | exact aAsk2 | (intro h; simp_all [Exec.cells] <;> fail) | (simp_all [Exec.cells] <;> fail))
          | ((with_reducible refine Go.ari64 ?_ ?_ ?_); (· exact aBnd); (· exact aBnd))
          | ((with_reducible refine Go.ariu8 ?_ ?_ ?_); (· exact aBnd); (· exact aBnd))
          | (with_reducible refine Go.ari0 ?_)
          | (apply Go.elem; (· (first | exact lst_get | exact aElem)))
          | (apply Go.row; (· exact aRow))
          | (apply Go.map; (· exact aRow))
          | (apply Go.gives; (· exact aGives))
          | (apply Go.gives; (· exact aRes))
          | (with_reducible refine Go.unroll ?_)
          | (with_reducible refine Go.drawn ?_)
          | ((refine Go.callE hI2 ?_ ?_); (· exact aFit))
          | ((refine Go.callW hI2 ?_ ?_); (· exact aFit))
          | (refine Go.gt rfl ?_)
          | (refine Go.gf rfl ?_)
          | (with_reducible refine Go.join ?_)
          | (refine Go.lt' rfl ?_)
          | (refine Go.lf' rfl ?_)
          | ((with_reducible refine Go.bool ?_ ?_) <;> intro hc <;> (try simp only [List.length_map, ne_eq, hcs] at hc) <;> try (exfalso; omega))
          | ((with_reducible refine Res.eq ?_ ?_); (· exact aFit)))
      · refine bl_eq (Eq.symm (decide_eq_false ?_))
        rintro rfl
        exact hc rfl
      · refine ⟨i + 1, by omega, aLess, by omega, aNx, aRow, aRow, fun j hj => ?_⟩
        by_cases hji : j = i
        · subst hji; exact hc
        · exact hall2 j (by omega)
    · have hil : i = x.after.length := by omega
      subst hil
      have haf : x.after = y.after := ext_getD [] e2 hall2
      repeat' (first
          | ((with_reducible refine Go.red ?_); conv => whnf)
          | (with_reducible refine Go.and ?_ ?_)
          | (with_reducible exact True.intro)
          | (with_reducible refine Go.far ?_)
          | ((with_reducible refine Apt.mk ?_); (try dsimp only); omega)
          | (with_reducible exact Go.askRep)
          | ((with_reducible refine Ask.mk ?_); first | exact aAsk | exact aAsk2 | (intro h; simp_all [Exec.cells] <;> fail) | (simp_all [Exec.cells] <;> fail))
          | ((with_reducible refine Go.ari64 ?_ ?_ ?_); (· exact aBnd); (· exact aBnd))
          | ((with_reducible refine Go.ariu8 ?_ ?_ ?_); (· exact aBnd); (· exact aBnd))
          | (with_reducible refine Go.ari0 ?_)
          | (apply Go.elem; (· exact aElem))
          | (apply Go.row; (· exact aRow))
          | (apply Go.map; (· exact aRow))
          | (apply Go.gives; (· exact aGives))
          | (apply Go.gives; (· exact aRes))
          | (with_reducible refine Go.unroll ?_)
          | (with_reducible refine Go.drawn ?_)
          | (refine Go.gt rfl ?_)
          | (refine Go.gf rfl ?_)
          | (with_reducible refine Go.join ?_)
          | (refine Go.lt' rfl ?_)
          | (refine Go.lf' rfl ?_)
          | ((with_reducible refine Go.bool ?_ ?_) <;> intro hc <;> (try simp only [List.length_map, ne_eq, hcs] at hc) <;> try (exfalso; omega))
          | ((with_reducible refine Res.eq ?_ ?_); (· exact aFit)))
      refine bl_eq (Eq.symm (decide_eq_true ?_))
      cases x; cases y
      simp only at *
      subst hev; subst haf; subst e3; subst e4
      rfl
set_option maxHeartbeats 2000000 in
theorem checks_pure (x : Exec) (hx : x.Wf) : Pure Try.prog 3 [x.av] (fun r => r = bl true) := by
  refine Go.pure Try.func3 nm3 low3 res3 nt3 rfl ?_
  have h1 := check_pure x hx
  have h2 := rcheck_pure x hx
  have h3 := coherent_pure x hx
  have h4 := rcoherent_pure x hx
  have h5 := plain_pure x hx
  have h6 := rplain_pure x hx
  have h7 := tso_pure x hx
  have h8 := rtso_pure x hx
  have h9 := same_pure x x hx hx
  rw [decide_eq_true rfl] at h9
  generalize (checkS x).1 = c1 at *
  generalize (checkS x).2 = c2 at *
  generalize plainB x = P at *
  generalize tsoB x = T at *
  generalize cohB x = C at *
  generalize errN x = E at *
  repeat' (first
    | ((with_reducible refine Go.red ?_); conv => whnf)
    | (with_reducible refine Go.and ?_ ?_)
    | (with_reducible exact True.intro)
    | (with_reducible refine Go.far ?_)
    | ((with_reducible refine Apt.mk ?_); (try dsimp only); omega)
    | (with_reducible exact Go.askRep)
    | ((with_reducible refine Ask.mk ?_); first | exact aAsk | exact aAsk2)
    | ((with_reducible refine Go.ari64 ?_ ?_ ?_); (· exact aBnd); (· exact aBnd))
    | ((with_reducible refine Go.ariu8 ?_ ?_ ?_); (· exact aBnd); (· exact aBnd))
    | (with_reducible refine Go.ari0 ?_)
    | (apply Go.elem; (· exact aElem))
    | (apply Go.row; (· exact aRow))
    | (apply Go.map; (· exact aRow))
    | (apply Go.gives; (· exact aGives))
    | (apply Go.gives; (· exact aRes))
    | (with_reducible refine Go.unroll ?_)
    | (with_reducible refine Go.drawn ?_)
    | ((with_reducible refine Go.callW (begins_pure) ?_ ?_); (· exact aFit))
    | ((with_reducible refine Go.callJ (fun _ => begins_pure) ?_ ?_); (· exact aFit))
    | ((with_reducible refine Go.callE (begins_pure) ?_ ?_); (· exact aFit))
    | ((with_reducible refine Go.callF (fun _ => begins_pure) ?_ ?_); (· exact aFit))
    | ((with_reducible refine Go.callW (copy_pure x hx) ?_ ?_); (· exact aFit))
    | ((with_reducible refine Go.callJ (fun _ => copy_pure x hx) ?_ ?_); (· exact aFit))
    | ((with_reducible refine Go.callE (copy_pure x hx) ?_ ?_); (· exact aFit))
    | ((with_reducible refine Go.callF (fun _ => copy_pure x hx) ?_ ?_); (· exact aFit))
    | ((with_reducible refine Go.callW (h1) ?_ ?_); (· exact aFit))
    | ((with_reducible refine Go.callJ (fun _ => h1) ?_ ?_); (· exact aFit))
    | ((with_reducible refine Go.callE (h1) ?_ ?_); (· exact aFit))
    | ((with_reducible refine Go.callF (fun _ => h1) ?_ ?_); (· exact aFit))
    | ((with_reducible refine Go.callW (h2) ?_ ?_); (· exact aFit))
    | ((with_reducible refine Go.callJ (fun _ => h2) ?_ ?_); (· exact aFit))
    | ((with_reducible refine Go.callE (h2) ?_ ?_); (· exact aFit))
    | ((with_reducible refine Go.callF (fun _ => h2) ?_ ?_); (· exact aFit))
    | ((with_reducible refine Go.callW (h3) ?_ ?_); (· exact aFit))
    | ((with_reducible refine Go.callJ (fun _ => h3) ?_ ?_); (· exact aFit))
    | ((with_reducible refine Go.callE (h3) ?_ ?_); (· exact aFit))
    | ((with_reducible refine Go.callF (fun _ => h3) ?_ ?_); (· exact aFit))
    | ((with_reducible refine Go.callW (h4) ?_ ?_); (· exact aFit))
    | ((with_reducible refine Go.callJ (fun _ => h4) ?_ ?_); (· exact aFit))
    | ((with_reducible refine Go.callE (h4) ?_ ?_); (· exact aFit))
    | ((with_reducible refine Go.callF (fun _ => h4) ?_ ?_); (· exact aFit))
    | ((with_reducible refine Go.callW (h5) ?_ ?_); (· exact aFit))
    | ((with_reducible refine Go.callJ (fun _ => h5) ?_ ?_); (· exact aFit))
    | ((with_reducible refine Go.callE (h5) ?_ ?_); (· exact aFit))
    | ((with_reducible refine Go.callF (fun _ => h5) ?_ ?_); (· exact aFit))
    | ((with_reducible refine Go.callW (h6) ?_ ?_); (· exact aFit))
    | ((with_reducible refine Go.callJ (fun _ => h6) ?_ ?_); (· exact aFit))
    | ((with_reducible refine Go.callE (h6) ?_ ?_); (· exact aFit))
    | ((with_reducible refine Go.callF (fun _ => h6) ?_ ?_); (· exact aFit))
    | ((with_reducible refine Go.callW (h7) ?_ ?_); (· exact aFit))
    | ((with_reducible refine Go.callJ (fun _ => h7) ?_ ?_); (· exact aFit))
    | ((with_reducible refine Go.callE (h7) ?_ ?_); (· exact aFit))
    | ((with_reducible refine Go.callF (fun _ => h7) ?_ ?_); (· exact aFit))
    | ((with_reducible refine Go.callW (h8) ?_ ?_); (· exact aFit))
    | ((with_reducible refine Go.callJ (fun _ => h8) ?_ ?_); (· exact aFit))
    | ((with_reducible refine Go.callE (h8) ?_ ?_); (· exact aFit))
    | ((with_reducible refine Go.callF (fun _ => h8) ?_ ?_); (· exact aFit))
    | ((with_reducible refine Go.callW (h9) ?_ ?_); (· exact aFit))
    | ((with_reducible refine Go.callJ (fun _ => h9) ?_ ?_); (· exact aFit))
    | ((with_reducible refine Go.callE (h9) ?_ ?_); (· exact aFit))
    | ((with_reducible refine Go.callF (fun _ => h9) ?_ ?_); (· exact aFit))
    | (refine Go.gt rfl ?_)
    | (refine Go.gf rfl ?_)
    | (with_reducible refine Go.join ?_)
    | (refine Go.lt' rfl ?_)
    | (refine Go.lf' rfl ?_)
    | ((with_reducible refine Go.bool ?_ ?_) <;> intro hc <;> (try simp only [List.length_map, ne_eq, hcs] at hc) <;> try (exfalso; omega))
    | ((with_reducible refine Res.eq ?_ ?_); (· exact aFit)))
  exact bl_eq (by simp)
end Go.Proofs.Ytncllkpekbapjaa
