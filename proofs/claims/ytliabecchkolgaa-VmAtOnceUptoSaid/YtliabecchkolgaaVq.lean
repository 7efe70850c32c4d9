/- What the laws ask of a machine. -/
import Derived.Test.YtliabecchkolgaaVp
namespace Go.Proofs.Ytliabecchkolgaa
open Go Go.Abs Go.Proofs
set_option linter.unusedSimpArgs false
set_option linter.unusedVariables false
def Made (o : Obj) (H : Hp) (nx : Nat) : AV → Hp → Nat → Prop := fun r H' n => ∃ L, r = .tup [.pt L.m 1 0 0, bl true] ∧ MAt o (initM o) L H' n ∧ nx ≤ n ∧ (∀ b ∈ L.ids, nx ≤ b) ∧ ∀ b, b < nx → getH H' b = getH H b
theorem made_ok {o : Obj} (ho : o.Wf) (h : objOk o = true) {H : Hp} {nx : Nat} : CallN Try.prog 13 [o.av] H nx (Made o H nx) := by
  refine Go.fn Try.func13 nm13 low13 res13 nt13 rfl ?_
  repeat' (first
    | ((with_reducible refine Go.red ?_); conv => whnf)
    | (with_reducible refine Go.and ?_ ?_)
    | (with_reducible exact True.intro)
    | (with_reducible refine Go.far ?_)
    | ((with_reducible refine Apt.mk ?_); (try dsimp only); omega)
    | ((with_reducible refine Ask.mk ?_); first | exact aAsk | exact aAsk2)
    | ((with_reducible refine Go.ari64 ?_ ?_ ?_); (· exact aBnd); (· exact aBnd))
    | ((with_reducible refine Go.ariu8 ?_ ?_ ?_); (· exact aBnd); (· exact aBnd))
    | (with_reducible refine Go.ari0 ?_)
    | (apply Go.elem; (· exact aElem))
    | (apply Go.row; (· exact aRow))
    | (apply Go.gives; (· exact aGives))
    | (apply Go.gives; (· exact aRes))
    | (with_reducible refine Go.unroll ?_)
    | (refine Go.gt rfl ?_)
    | (refine Go.gf rfl ?_)
    | (with_reducible refine Go.join ?_)
    | (refine Go.lt' rfl ?_)
    | (refine Go.lf' rfl ?_)
    | ((with_reducible refine Go.bool ?_ ?_) <;> intro hc <;> (try simp only [List.length_map, ne_eq, hcs] at hc) <;> try (exfalso; omega))
    | ((with_reducible refine Res.eq ?_ ?_); (· exact aFit)))
  refine Go.callN (new_ok ho (objOk_ok h) h) ?_
  rintro _ H2 n2 ⟨L, rfl, hM, h1, h2, h3⟩
  have e1 : nx + 4 ≤ n2 := Nat.le_trans aNx h1
  have e2 : ∀ b ∈ L.ids, nx + 4 ≤ b := fun b hb => Nat.le_trans aNx (h2 b hb)
  have hfr : ∀ b, b < nx → getH H2 b = getH H b := fun b hb => (h3 b aNx).trans (by repeat (first | exact rfl | (refine Eq.trans (getH_skipEq (by omega)) ?_)))
  clear h1 h2 h3
  repeat' (first
    | ((with_reducible refine Go.red ?_); conv => whnf)
    | (with_reducible refine Go.and ?_ ?_)
    | (with_reducible exact True.intro)
    | (with_reducible refine Go.far ?_)
    | ((with_reducible refine Apt.mk ?_); (try dsimp only); omega)
    | ((with_reducible refine Ask.mk ?_); first | exact aAsk | exact aAsk2)
    | ((with_reducible refine Go.ari64 ?_ ?_ ?_); (· exact aBnd); (· exact aBnd))
    | ((with_reducible refine Go.ariu8 ?_ ?_ ?_); (· exact aBnd); (· exact aBnd))
    | (with_reducible refine Go.ari0 ?_)
    | (apply Go.elem; (· exact aElem))
    | (apply Go.row; (· exact aRow))
    | (apply Go.gives; (· exact aGives))
    | (apply Go.gives; (· exact aRes))
    | (with_reducible refine Go.unroll ?_)
    | (refine Go.gt rfl ?_)
    | (refine Go.gf rfl ?_)
    | (with_reducible refine Go.join ?_)
    | (refine Go.lt' rfl ?_)
    | (refine Go.lf' rfl ?_)
    | ((with_reducible refine Go.bool ?_ ?_) <;> intro hc <;> (try simp only [List.length_map, ne_eq, hcs] at hc) <;> try (exfalso; omega))
    | ((with_reducible refine Res.eq ?_ ?_); (· exact aFit)))
  exact ⟨L, rfl, hM.keep aKeep aNx, aNx, fun b hb => by have := e2 b hb; omega, (by intro _b _hb; repeat (first | exact hfr _ _hb | exact rfl | (refine Eq.trans (getH_skipEq (by first | omega | (simp only [List.length_cons, List.length_nil]; omega))) ?_)))⟩
theorem made_bad {o : Obj} (ho : o.Wf) (h : objOk o = false) {H : Hp} {nx : Nat} : CallN Try.prog 13 [o.av] H nx (Kept H nx (.tup [.sc (.pointer none), bl false])) := by
  refine Go.fn Try.func13 nm13 low13 res13 nt13 rfl ?_
  repeat' (first
    | ((with_reducible refine Go.red ?_); conv => whnf)
    | (with_reducible refine Go.and ?_ ?_)
    | (with_reducible exact True.intro)
    | (with_reducible refine Go.far ?_)
    | ((with_reducible refine Apt.mk ?_); (try dsimp only); omega)
    | ((with_reducible refine Ask.mk ?_); first | exact aAsk | exact aAsk2)
    | ((with_reducible refine Go.ari64 ?_ ?_ ?_); (· exact aBnd); (· exact aBnd))
    | ((with_reducible refine Go.ariu8 ?_ ?_ ?_); (· exact aBnd); (· exact aBnd))
    | (with_reducible refine Go.ari0 ?_)
    | (apply Go.elem; (· exact aElem))
    | (apply Go.row; (· exact aRow))
    | (apply Go.gives; (· exact aGives))
    | (apply Go.gives; (· exact aRes))
    | (with_reducible refine Go.unroll ?_)
    | (refine Go.gt rfl ?_)
    | (refine Go.gf rfl ?_)
    | (with_reducible refine Go.join ?_)
    | (refine Go.lt' rfl ?_)
    | (refine Go.lf' rfl ?_)
    | ((with_reducible refine Go.bool ?_ ?_) <;> intro hc <;> (try simp only [List.length_map, ne_eq, hcs] at hc) <;> try (exfalso; omega))
    | ((with_reducible refine Res.eq ?_ ?_); (· exact aFit)))
  refine Go.callN (new_bad ho h) ?_
  rintro _ H2 n2 ⟨rfl, h1, h3⟩
  have e1 : nx + 4 ≤ n2 := Nat.le_trans aNx h1
  have hfr : ∀ b, b < nx → getH H2 b = getH H b := fun b hb => (h3 b aNx).trans (by repeat (first | exact rfl | (refine Eq.trans (getH_skipEq (by omega)) ?_)))
  clear h1 h3
  repeat' (first
    | ((with_reducible refine Go.red ?_); conv => whnf)
    | (with_reducible refine Go.and ?_ ?_)
    | (with_reducible exact True.intro)
    | (with_reducible refine Go.far ?_)
    | ((with_reducible refine Apt.mk ?_); (try dsimp only); omega)
    | ((with_reducible refine Ask.mk ?_); first | exact aAsk | exact aAsk2)
    | ((with_reducible refine Go.ari64 ?_ ?_ ?_); (· exact aBnd); (· exact aBnd))
    | ((with_reducible refine Go.ariu8 ?_ ?_ ?_); (· exact aBnd); (· exact aBnd))
    | (with_reducible refine Go.ari0 ?_)
    | (apply Go.elem; (· exact aElem))
    | (apply Go.row; (· exact aRow))
    | (apply Go.gives; (· exact aGives))
    | (apply Go.gives; (· exact aRes))
    | (with_reducible refine Go.unroll ?_)
    | (refine Go.gt rfl ?_)
    | (refine Go.gf rfl ?_)
    | (with_reducible refine Go.join ?_)
    | (refine Go.lt' rfl ?_)
    | (refine Go.lf' rfl ?_)
    | ((with_reducible refine Go.bool ?_ ?_) <;> intro hc <;> (try simp only [List.length_map, ne_eq, hcs] at hc) <;> try (exfalso; omega))
    | ((with_reducible refine Res.eq ?_ ?_); (· exact aFit)))
  exact ⟨rfl, aNx, (by intro _b _hb; repeat (first | exact hfr _ _hb | exact rfl | (refine Eq.trans (getH_skipEq (by first | omega | (simp only [List.length_cons, List.length_nil]; omega))) ?_)))⟩
theorem words_call {H : Hp} {nx b1 b2 : Nat} {d1 d2 : AV} {l1 l2 : List Int} (h1 : getH H b1 = some (.row 2 1 d1 (l1.map i64))) (h2 : getH H b2 = some (.row 2 1 d2 (l2.map i64))) (n1 : b1 < nx) (n2 : b2 < nx) (hs : l1.length ≤ 140737488355328) {k1 k2 : Nat} (e1 : l1.length = k1) (e2 : l2.length = k2) :
    Look Try.prog 17 [.sl b1 k1, .sl b2 k2] H nx (bl (decide (l1 = l2))) := by
  subst e1 e2
  refine Go.lookAt Try.func17 nm17 low17 res17 nt17 rfl ?_
  repeat' (first
    | ((with_reducible refine Go.red ?_); conv => whnf)
    | (with_reducible refine Go.and ?_ ?_)
    | (with_reducible exact True.intro)
    | (with_reducible refine Go.far ?_)
    | ((with_reducible refine Apt.mk ?_); (try dsimp only); omega)
    | ((with_reducible refine Ask.mk ?_); first | exact aAsk | exact aAsk2)
    | ((with_reducible refine Go.ari64 ?_ ?_ ?_); (· exact aBnd); (· exact aBnd))
    | ((with_reducible refine Go.ariu8 ?_ ?_ ?_); (· exact aBnd); (· exact aBnd))
    | (with_reducible refine Go.ari0 ?_)
    | (apply Go.elem; (· exact aElem))
    | (apply Go.row; (· exact aRow))
    | (apply Go.gives; (· exact aGives))
    | (apply Go.gives; (· exact aRes))
    | (with_reducible refine Go.unroll ?_)
    | (refine Go.gt rfl ?_)
    | (refine Go.gf rfl ?_)
    | (with_reducible refine Go.join ?_)
    | (refine Go.lt' rfl ?_)
    | (refine Go.lf' rfl ?_)
    | ((with_reducible refine Go.bool ?_ ?_) <;> intro hc <;> (try simp only [List.length_map, ne_eq, hcs] at hc) <;> try (exfalso; omega))
    | ((with_reducible refine Res.eq ?_ ?_); (· exact aFit)))
  · refine ResN.look ?_ aKeep
    rw [decide_eq_false (fun h => by rw [h] at hc; exact hc rfl)]
  · refine Go.loop (fun i : Nat => [(0, .sl b1 l1.length), (1, .sl b2 l2.length), (5, i64 i)]) (fun i H' n => i ≤ l1.length ∧ nx ≤ n ∧ (∀ b, b < nx → getH H' b = getH H b) ∧ ∀ j, j < i → l1.getD j default = l2.getD j default) (fun i => l1.length - i) 0 aLess ⟨Nat.zero_le _, aNx, aKeep, fun j hj => by omega⟩ ?_
    rintro i H' n ⟨hi, hn, hfr, hs2⟩
    have g1 := (hfr _ n1).trans h1
    have g2 := (hfr _ n2).trans h2
    repeat' (first
        | ((with_reducible refine Go.red ?_); conv => whnf)
        | (with_reducible refine Go.and ?_ ?_)
        | (with_reducible exact True.intro)
        | (with_reducible refine Go.far ?_)
        | ((with_reducible refine Apt.mk ?_); (try dsimp only); omega)
        | ((with_reducible refine Ask.mk ?_); first | exact aAsk | exact aAsk2)
        | ((with_reducible refine Go.ari64 ?_ ?_ ?_); (· exact aBnd); (· exact aBnd))
        | ((with_reducible refine Go.ariu8 ?_ ?_ ?_); (· exact aBnd); (· exact aBnd))
        | (with_reducible refine Go.ari0 ?_)
        | (apply Go.elem; (· exact aElem))
        | (apply Go.row; (· exact aRow))
        | (apply Go.gives; (· exact aGives))
        | (apply Go.gives; (· exact aRes))
        | (with_reducible refine Go.unroll ?_)
        | (refine Go.gt rfl ?_)
        | (refine Go.gf rfl ?_)
        | (with_reducible refine Go.join ?_)
        | (refine Go.lt' rfl ?_)
        | (refine Go.lf' rfl ?_)
        | ((with_reducible refine Go.bool ?_ ?_) <;> intro hc <;> (try simp only [List.length_map, ne_eq, hcs] at hc) <;> try (exfalso; omega))
        | ((with_reducible refine Res.eq ?_ ?_); (· exact aFit)))
    · refine ResN.look ?_ (by intro _b _hb; repeat (first | exact hfr _ _hb | exact rfl | (refine Eq.trans (getH_skipEq (by first | omega | (simp only [List.length_cons, List.length_nil]; omega))) ?_)))
      rw [decide_eq_false]
      intro h; rw [h] at hc
      simp at hc
    · refine ⟨i + 1, by omega, aLess, by omega, aNx, (by intro _b _hb; repeat (first | exact hfr _ _hb | exact rfl | (refine Eq.trans (getH_skipEq (by first | omega | (simp only [List.length_cons, List.length_nil]; omega))) ?_))), fun j hj => ?_⟩
      by_cases hji : j = i
      · subst hji; simpa using hc
      · exact hs2 j (by omega)
    · refine ResN.look ?_ (by intro _b _hb; repeat (first | exact hfr _ _hb | exact rfl | (refine Eq.trans (getH_skipEq (by first | omega | (simp only [List.length_cons, List.length_nil]; omega))) ?_)))
      have he : l1 = l2 := by
        apply List.ext_getElem (by omega)
        intro j p1 p2
        have := hs2 j (by omega)
        simpa [List.getD, p1, p2] using this
      rw [decide_eq_true he]
end Go.Proofs.Ytliabecchkolgaa
