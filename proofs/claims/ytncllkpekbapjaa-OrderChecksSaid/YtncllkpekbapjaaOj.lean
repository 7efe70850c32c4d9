/- The heap's own moves. -/
import Derived.Test.YtncllkpekbapjaaOi
namespace Go.Proofs.Ytncllkpekbapjaa
open Go Go.Abs Go.Proofs
set_option linter.unusedSimpArgs false
set_option linter.unusedVariables false

def upF : Nat → List Int → Nat → List Int
  | 0, l, _ => l
  | f + 1, l, j => if (j - 1) / 2 = j then l else if l.getD j 0 < l.getD ((j - 1) / 2) 0 then upF f (swapL l ((j - 1) / 2) j) ((j - 1) / 2) else l
theorem upF_len : ∀ (f : Nat) (l : List Int) (j : Nat), (upF f l j).length = l.length
  | 0, _, _ => rfl
  | f + 1, l, j => by
    simp only [upF]
    split
    · rfl
    · split
      · rw [upF_len f, swapL_len]
      · rfl
def downJ (l : List Int) (i n : Nat) : Nat := if 2 * i + 2 < n ∧ l.getD (2 * i + 2) 0 < l.getD (2 * i + 1) 0 then 2 * i + 2 else 2 * i + 1
def downF : Nat → List Int → Nat → Nat → List Int
  | 0, l, _, _ => l
  | f + 1, l, i, n => if n ≤ 2 * i + 1 then l else if l.getD (downJ l i n) 0 < l.getD i 0 then downF f (swapL l i (downJ l i n)) (downJ l i n) n else l
theorem downF_len : ∀ (f : Nat) (l : List Int) (i n : Nat), (downF f l i n).length = l.length
  | 0, _, _, _ => rfl
  | f + 1, l, i, n => by
    simp only [downF]
    split
    · rfl
    · split
      · rw [downF_len f, swapL_len]
      · rfl
/-- The same heap after a swap. -/
theorem HpAt.swap {R q : Nat} {l l' : List Int} {H H' : Hp} {d : AV} {nx : Nat} (h : HpAt R q l H) (hl : l'.length = l.length) (hs : getH H' q = some (.row 3 1 d (l'.map i64))) (hf : ∀ y, y < nx → y ≠ q → getH H' y = getH H y) (hR : R < nx) : HpAt R q l' H' := by
  obtain ⟨⟨dR, hr⟩, _, hne⟩ := h
  exact ⟨⟨dR, by rw [hf R hR hne, hl]; exact hr⟩, ⟨d, hs⟩, hne⟩
set_option maxHeartbeats 4000000 in
theorem up_call (R q : Nat) (l : List Int) (j : Nat) (H : Hp) (nx : Nat) (h : HpAt R q l H) (hR : R < nx) (hq : q < nx) (hl : l.length < 1000) (hj : j < l.length) :
    CallN Try.prog 51 [hpV R, i64 j] H nx (fun r H' nx' => HpTo R q (upF (j + 1) l j) H nx H' nx') := by
  refine Go.fn Try.func51 nm51 low51 res51 nt51 rfl ?_
  repeat' (first
    | ((with_reducible refine Go.red ?_); conv => whnf)
    | (with_reducible refine Go.and ?_ ?_)
    | (with_reducible exact True.intro)
    | (with_reducible refine Go.far ?_)
    | ((with_reducible refine Apt.mk ?_); (try dsimp only); omega)
    | (with_reducible exact Go.askRep)
    | ((with_reducible refine Ask.mk ?_); first | exact aAsk | exact aAsk2)
    | ((with_reducible refine Go.ari64 ?_ ?_ ?_); (· exact aBnd); (· exact aBnd))
    | ((with_reducible refine Go.ariu8 ?_ ?_ ?_); (· exact aBnd); (· exact aBnd))
    | (with_reducible refine Go.ari0 ?_)
    | (apply Go.elem; (· exact aElem))
    | (apply Go.row; (· exact aRow))
    | (apply Go.map; (· exact aRow))
    | (apply Go.gives; (· exact aGives))
    | (apply Go.gives; (· exact aRes))
    | (with_reducible refine Go.unroll ?_)
    | (with_reducible refine Go.drawn ?_)
    | (refine Go.gt rfl ?_)
    | (refine Go.gf rfl ?_)
    | (with_reducible refine Go.join ?_)
    | (refine Go.lt' rfl ?_)
    | (refine Go.lf' rfl ?_)
    | ((with_reducible refine Go.bool ?_ ?_) <;> intro hc <;> (try simp only [List.length_map, ne_eq, hcs] at hc) <;> try (exfalso; omega))
    | ((with_reducible refine Res.eq ?_ ?_); (· exact aFit)))
  generalize hU : upF (j + 1) l j = U
  refine Go.loop (fun p : Nat × Nat × List Int => [(0, hpV R), (1, i64 p.2.1)])
    (fun p H9 n9 => p.2.1 < p.1 ∧ p.2.1 < p.2.2.length ∧ p.2.2.length = l.length ∧ U = upF p.1 p.2.2 p.2.1 ∧ HpTo R q p.2.2 H nx H9 n9) (fun p => p.1) (j + 1, j, l) aLess ⟨by dsimp only; omega, hj, rfl, hU.symm, aNx, h, fun _ _ _ _ => rfl⟩ ?_
  rintro ⟨f, j1, l1⟩ H1 n1 ⟨hf, hj1, hl1, he, hn1, hp, hfr⟩
  dsimp only at hf hj1 hl1 he hp ⊢
  obtain ⟨d1, hs1⟩ := hp.s
  have hdiv : IntKind.i64.wrap (((j1 : Int) - 1).tdiv 2) = (((j1 - 1) / 2 : Nat) : Int) := by
    rcases Nat.eq_zero_or_pos j1 with h0 | h0
    · subst h0; decide
    · have e : ((j1 : Int) - 1) = ((j1 - 1 : Nat) : Int) := by omega
      rw [e, Int.tdiv_eq_ediv_of_nonneg (by omega)]
      exact wrap64 (by omega) (by omega)
  have hlook := hp.look
  obtain ⟨f, rfl⟩ : ∃ g, f = g + 1 := ⟨f - 1, by omega⟩
  rw [upF] at he
  by_cases hi : (j1 - 1) / 2 = j1
  · rw [if_pos hi] at he
    have hdec : decide ((((j1 - 1) / 2 : Nat) : Int) = (j1 : Int)) = true := decide_eq_true (by omega)
    repeat' (first
        | ((with_reducible refine Go.red ?_); conv => whnf)
        | (with_reducible refine Go.and ?_ ?_)
        | (with_reducible exact True.intro)
        | (with_reducible refine Go.far ?_)
        | ((with_reducible refine Apt.mk ?_); (try dsimp only); omega)
        | (with_reducible exact Go.askRep)
        | ((with_reducible refine Ask.mk ?_); first | exact aAsk | exact aAsk2)
        | ((with_reducible refine Go.ari64 ?_ ?_ ?_); (· exact aBnd); (· exact aBnd))
        | ((with_reducible refine Go.ariu8 ?_ ?_ ?_); (· exact aBnd); (· exact aBnd))
        | (with_reducible refine Go.ari0 ?_)
        | (apply Go.elem; (· exact aElem))
        | (apply Go.row; (· exact aRow))
        | (apply Go.map; (· exact aRow))
        | (apply Go.gives; (· exact aGives))
        | (apply Go.gives; (· exact aRes))
        | (with_reducible refine Go.unroll ?_)
        | (with_reducible refine Go.drawn ?_)
        | (simp only [hdiv])
        | (simp only [hdec])
        | (refine Go.gt rfl ?_)
        | (refine Go.gf rfl ?_)
        | (with_reducible refine Go.join ?_)
        | (refine Go.lt' rfl ?_)
        | (refine Go.lf' rfl ?_)
        | ((with_reducible refine Go.bool ?_ ?_) <;> intro hc <;> (try simp only [List.length_map, ne_eq, hcs] at hc) <;> try (exfalso; omega))
        | ((with_reducible refine Res.eq ?_ ?_); (· exact aFit)))
    · refine ⟨⟨aNx, by rw [he]; exact hp, hfr⟩⟩
    all_goals omega
  · rw [if_neg hi] at he
    have hdec : decide ((((j1 - 1) / 2 : Nat) : Int) = (j1 : Int)) = false := decide_eq_false (by omega)
    by_cases hlt : l1.getD j1 0 < l1.getD ((j1 - 1) / 2) 0
    · rw [if_pos hlt] at he
      have hdl : decide (l1.getD j1 0 < l1.getD ((j1 - 1) / 2) 0) = true := decide_eq_true hlt
      repeat' (first
          | ((with_reducible refine Go.red ?_); conv => whnf)
          | (with_reducible refine Go.and ?_ ?_)
          | (with_reducible exact True.intro)
          | (with_reducible refine Go.far ?_)
          | ((with_reducible refine Apt.mk ?_); (try dsimp only); omega)
          | (with_reducible exact Go.askRep)
          | ((with_reducible refine Ask.mk ?_); first | exact aAsk | exact aAsk2)
          | ((with_reducible refine Go.ari64 ?_ ?_ ?_); (· exact aBnd); (· exact aBnd))
          | ((with_reducible refine Go.ariu8 ?_ ?_ ?_); (· exact aBnd); (· exact aBnd))
          | (with_reducible refine Go.ari0 ?_)
          | (apply Go.elem; (· exact aElem))
          | (apply Go.row; (· exact aRow))
          | (apply Go.map; (· exact aRow))
          | (apply Go.gives; (· exact aGives))
          | (apply Go.gives; (· exact aRes))
          | (with_reducible refine Go.unroll ?_)
          | (with_reducible refine Go.drawn ?_)
          | ((refine Go.lookW ((less_look q l1 _ _ d1 hs1 j1 ((j1 - 1) / 2) hj1 (by omega))) ?_ ?_); (· exact True.intro))
          | ((refine Go.lookJ (fun _ => (less_look q l1 _ _ d1 hs1 j1 ((j1 - 1) / 2) hj1 (by omega))) ?_ ?_); (· exact True.intro))
          | (simp only [hdiv])
          | (simp only [hdec])
          | (simp only [hdl])
          | ((with_reducible apply goLess); (· exact hlook); (· exact rfl))
          | ((with_reducible apply goSwap); (· exact hlook); (· exact rfl))
          | (refine Go.gt rfl ?_)
          | (refine Go.gf rfl ?_)
          | (with_reducible refine Go.join ?_)
          | (refine Go.lt' rfl ?_)
          | (refine Go.lf' rfl ?_)
          | ((with_reducible refine Go.bool ?_ ?_) <;> intro hc <;> (try simp only [List.length_map, ne_eq, hcs] at hc) <;> try (exfalso; omega))
          | ((with_reducible refine Res.eq ?_ ?_); (· exact aFit)))
      refine Go.callN (swap_call q l1 _ _ d1 hs1 ((j1 - 1) / 2) j1 (by omega) hj1 (by omega)) ?_
      rintro _ H2 n2 ⟨hn2, hs2, hfr2⟩
      have hp2 := hp.swap (swapL_len l1 ((j1 - 1) / 2) j1) hs2 hfr2 (by omega)
      repeat' (first
          | ((with_reducible refine Go.red ?_); conv => whnf)
          | (with_reducible refine Go.and ?_ ?_)
          | (with_reducible exact True.intro)
          | (with_reducible refine Go.far ?_)
          | ((with_reducible refine Apt.mk ?_); (try dsimp only); omega)
          | (with_reducible exact Go.askRep)
          | ((with_reducible refine Ask.mk ?_); first | exact aAsk | exact aAsk2)
          | ((with_reducible refine Go.ari64 ?_ ?_ ?_); (· exact aBnd); (· exact aBnd))
          | ((with_reducible refine Go.ariu8 ?_ ?_ ?_); (· exact aBnd); (· exact aBnd))
          | (with_reducible refine Go.ari0 ?_)
          | (apply Go.elem; (· exact aElem))
          | (apply Go.row; (· exact aRow))
          | (apply Go.map; (· exact aRow))
          | (apply Go.gives; (· exact aGives))
          | (apply Go.gives; (· exact aRes))
          | (with_reducible refine Go.unroll ?_)
          | (with_reducible refine Go.drawn ?_)
          | (refine Go.gt rfl ?_)
          | (refine Go.gf rfl ?_)
          | (with_reducible refine Go.join ?_)
          | (refine Go.lt' rfl ?_)
          | (refine Go.lf' rfl ?_)
          | ((with_reducible refine Go.bool ?_ ?_) <;> intro hc <;> (try simp only [List.length_map, ne_eq, hcs] at hc) <;> try (exfalso; omega))
          | ((with_reducible refine Res.eq ?_ ?_); (· exact aFit)))
      exact ⟨(f, (j1 - 1) / 2, swapL l1 ((j1 - 1) / 2) j1), by dsimp only; omega, aLess, by dsimp only; omega, by dsimp only; rw [swapL_len]; omega, by dsimp only; rw [swapL_len]; omega, he, aNx, hp2, fun y hy n1 n2 => (hfr2 y (by omega) n2).trans (hfr y hy n1 n2)⟩
    · rw [if_neg hlt] at he
      have hdl : decide (l1.getD j1 0 < l1.getD ((j1 - 1) / 2) 0) = false := decide_eq_false hlt
      repeat' (first
          | ((with_reducible refine Go.red ?_); conv => whnf)
          | (with_reducible refine Go.and ?_ ?_)
          | (with_reducible exact True.intro)
          | (with_reducible refine Go.far ?_)
          | ((with_reducible refine Apt.mk ?_); (try dsimp only); omega)
          | (with_reducible exact Go.askRep)
          | ((with_reducible refine Ask.mk ?_); first | exact aAsk | exact aAsk2)
          | ((with_reducible refine Go.ari64 ?_ ?_ ?_); (· exact aBnd); (· exact aBnd))
          | ((with_reducible refine Go.ariu8 ?_ ?_ ?_); (· exact aBnd); (· exact aBnd))
          | (with_reducible refine Go.ari0 ?_)
          | (apply Go.elem; (· exact aElem))
          | (apply Go.row; (· exact aRow))
          | (apply Go.map; (· exact aRow))
          | (apply Go.gives; (· exact aGives))
          | (apply Go.gives; (· exact aRes))
          | (with_reducible refine Go.unroll ?_)
          | (with_reducible refine Go.drawn ?_)
          | ((refine Go.lookW ((less_look q l1 _ _ d1 hs1 j1 ((j1 - 1) / 2) hj1 (by omega))) ?_ ?_); (· exact True.intro))
          | ((refine Go.lookJ (fun _ => (less_look q l1 _ _ d1 hs1 j1 ((j1 - 1) / 2) hj1 (by omega))) ?_ ?_); (· exact True.intro))
          | (simp only [hdiv])
          | (simp only [hdec])
          | (simp only [hdl])
          | ((with_reducible apply goLess); (· exact hlook); (· exact rfl))
          | (refine Go.gt rfl ?_)
          | (refine Go.gf rfl ?_)
          | (with_reducible refine Go.join ?_)
          | (refine Go.lt' rfl ?_)
          | (refine Go.lf' rfl ?_)
          | ((with_reducible refine Go.bool ?_ ?_) <;> intro hc <;> (try simp only [List.length_map, ne_eq, hcs] at hc) <;> try (exfalso; omega))
          | ((with_reducible refine Res.eq ?_ ?_); (· exact aFit)))
      exact ⟨⟨aNx, by rw [he]; exact hp, hfr⟩⟩
set_option maxHeartbeats 8000000 in
theorem down_call (R q : Nat) (l : List Int) (i n : Nat) (H : Hp) (nx : Nat) (h : HpAt R q l H) (hR : R < nx) (hq : q < nx) (hl : l.length < 1000) (hi : i < l.length) (hn : n ≤ l.length) :
    CallN Try.prog 52 [hpV R, i64 i, i64 n] H nx (fun r H' nx' => HpTo R q (downF (n + 1) l i n) H nx H' nx') := by
  refine Go.fn Try.func52 nm52 low52 res52 nt52 rfl ?_
  repeat' (first
    | ((with_reducible refine Go.red ?_); conv => whnf)
    | (with_reducible refine Go.and ?_ ?_)
    | (with_reducible exact True.intro)
    | (with_reducible refine Go.far ?_)
    | ((with_reducible refine Apt.mk ?_); (try dsimp only); omega)
    | (with_reducible exact Go.askRep)
    | ((with_reducible refine Ask.mk ?_); first | exact aAsk | exact aAsk2)
    | ((with_reducible refine Go.ari64 ?_ ?_ ?_); (· exact aBnd); (· exact aBnd))
    | ((with_reducible refine Go.ariu8 ?_ ?_ ?_); (· exact aBnd); (· exact aBnd))
    | (with_reducible refine Go.ari0 ?_)
    | (apply Go.elem; (· exact aElem))
    | (apply Go.row; (· exact aRow))
    | (apply Go.map; (· exact aRow))
    | (apply Go.gives; (· exact aGives))
    | (apply Go.gives; (· exact aRes))
    | (with_reducible refine Go.unroll ?_)
    | (with_reducible refine Go.drawn ?_)
    | (refine Go.gt rfl ?_)
    | (refine Go.gf rfl ?_)
    | (with_reducible refine Go.join ?_)
    | (refine Go.lt' rfl ?_)
    | (refine Go.lf' rfl ?_)
    | ((with_reducible refine Go.bool ?_ ?_) <;> intro hc <;> (try simp only [List.length_map, ne_eq, hcs] at hc) <;> try (exfalso; omega))
    | ((with_reducible refine Res.eq ?_ ?_); (· exact aFit)))
  generalize hU : downF (n + 1) l i n = U
  refine Go.loop (fun p : Nat × Nat × List Int => [(0, hpV R), (1, i64 i), (2, i64 n), (7, i64 p.2.1)])
    (fun p H9 n9 => n < p.1 + p.2.1 ∧ p.2.1 < p.2.2.length ∧ p.2.2.length = l.length ∧ U = downF p.1 p.2.2 p.2.1 n ∧ HpTo R q p.2.2 H nx H9 n9) (fun p => p.1) (n + 1, i, l) aLess ⟨by dsimp only; omega, hi, rfl, hU.symm, aNx, h, fun _ _ _ _ => rfl⟩ ?_
  rintro ⟨f, k, l1⟩ H1 n1 ⟨hf, hk, hl1, he, hn1, hp, hfr⟩
  dsimp only at hf hk hl1 he hp ⊢
  obtain ⟨d1, hs1⟩ := hp.s
  have hlook := hp.look
  have e1 : 2 * (k : Int) + 1 = ((2 * k + 1 : Nat) : Int) := by omega
  have e2 : ((2 * k + 1 : Nat) : Int) + 1 = ((2 * k + 2 : Nat) : Int) := by omega
  have hng : decide (((2 * k + 1 : Nat) : Int) < 0) = false := decide_eq_false (by omega)
  by_cases hA : n ≤ 2 * k + 1
  · have hU2 : U = l1 := by
      rw [he]
      cases f with
      | zero => rfl
      | succ f => rw [downF, if_pos hA]
    have hdA : decide ((n : Int) ≤ ((2 * k + 1 : Nat) : Int)) = true := decide_eq_true (by omega)
    repeat' (first
        | ((with_reducible refine Go.red ?_); conv => whnf)
        | (with_reducible refine Go.and ?_ ?_)
        | (with_reducible exact True.intro)
        | (with_reducible refine Go.far ?_)
        | ((with_reducible refine Apt.mk ?_); (try dsimp only); omega)
        | (with_reducible exact Go.askRep)
        | ((with_reducible refine Ask.mk ?_); first | exact aAsk | exact aAsk2)
        | ((with_reducible refine Go.ari64 ?_ ?_ ?_); (· exact aBnd); (· exact aBnd))
        | ((with_reducible refine Go.ariu8 ?_ ?_ ?_); (· exact aBnd); (· exact aBnd))
        | (with_reducible refine Go.ari0 ?_)
        | (apply Go.elem; (· exact aElem))
        | (apply Go.row; (· exact aRow))
        | (apply Go.map; (· exact aRow))
        | (apply Go.gives; (· exact aGives))
        | (apply Go.gives; (· exact aRes))
        | (with_reducible refine Go.unroll ?_)
        | (with_reducible refine Go.drawn ?_)
        | (simp only [e1])
        | (simp only [hdA])
        | (refine Go.gt rfl ?_)
        | (refine Go.gf rfl ?_)
        | (with_reducible refine Go.join ?_)
        | (refine Go.lt' rfl ?_)
        | (refine Go.lf' rfl ?_)
        | ((with_reducible refine Go.bool ?_ ?_) <;> intro hc <;> (try simp only [List.length_map, ne_eq, hcs] at hc) <;> try (exfalso; omega))
        | ((with_reducible refine Res.eq ?_ ?_); (· exact aFit)))
    exact ⟨⟨aNx, by rw [hU2]; exact hp, hfr⟩⟩
  · have hdA : decide ((n : Int) ≤ ((2 * k + 1 : Nat) : Int)) = false := decide_eq_false (by omega)
    obtain ⟨f, rfl⟩ : ∃ g, f = g + 1 := ⟨f - 1, by omega⟩
    rw [downF, if_neg hA] at he
    by_cases hB : 2 * k + 2 < n
    · have hdB : decide (((2 * k + 2 : Nat) : Int) < (n : Int)) = true := decide_eq_true (by omega)
      by_cases hC : l1.getD (2 * k + 2) 0 < l1.getD (2 * k + 1) 0
      · have hdC : decide (l1.getD (2 * k + 2) 0 < l1.getD (2 * k + 1) 0) = true := decide_eq_true hC
        have hJ : downJ l1 k n = 2 * k + 2 := by unfold downJ; rw [if_pos ⟨hB, hC⟩]
        rw [hJ] at he
        by_cases hlt : l1.getD (2 * k + 2) 0 < l1.getD k 0
        · rw [if_pos hlt] at he
          have hdl : decide (l1.getD (2 * k + 2) 0 < l1.getD k 0) = true := decide_eq_true hlt
          repeat' (first
              | ((with_reducible refine Go.red ?_); conv => whnf)
              | (with_reducible refine Go.and ?_ ?_)
              | (with_reducible exact True.intro)
              | (with_reducible refine Go.far ?_)
              | ((with_reducible refine Apt.mk ?_); (try dsimp only); omega)
              | (with_reducible exact Go.askRep)
              | ((with_reducible refine Ask.mk ?_); first | exact aAsk | exact aAsk2)
              | ((with_reducible refine Go.ari64 ?_ ?_ ?_); (· exact aBnd); (· exact aBnd))
              | ((with_reducible refine Go.ariu8 ?_ ?_ ?_); (· exact aBnd); (· exact aBnd))
              | (with_reducible refine Go.ari0 ?_)
              | (apply Go.elem; (· exact aElem))
              | (apply Go.row; (· exact aRow))
              | (apply Go.map; (· exact aRow))
              | (apply Go.gives; (· exact aGives))
              | (apply Go.gives; (· exact aRes))
              | (with_reducible refine Go.unroll ?_)
              | (with_reducible refine Go.drawn ?_)
              | ((refine Go.lookW ((less_look q l1 _ _ d1 hs1 (2 * k + 2) (2 * k + 1) (by omega) (by omega))) ?_ ?_); (· exact True.intro))
              | ((refine Go.lookJ (fun _ => (less_look q l1 _ _ d1 hs1 (2 * k + 2) (2 * k + 1) (by omega) (by omega))) ?_ ?_); (· exact True.intro))
              | ((refine Go.lookW ((less_look q l1 _ _ d1 hs1 (2 * k + 2) k (by omega) hk)) ?_ ?_); (· exact True.intro))
              | ((refine Go.lookJ (fun _ => (less_look q l1 _ _ d1 hs1 (2 * k + 2) k (by omega) hk)) ?_ ?_); (· exact True.intro))
              | (simp only [e1])
              | (simp only [e2])
              | (simp only [hdA])
              | (simp only [hng])
              | (simp only [hdB])
              | (simp only [hdC])
              | (simp only [hdl])
              | ((with_reducible apply goLess); (· exact hlook); (· exact rfl))
              | ((with_reducible apply goSwap); (· exact hlook); (· exact rfl))
              | (refine Go.gt rfl ?_)
              | (refine Go.gf rfl ?_)
              | (with_reducible refine Go.join ?_)
              | (refine Go.lt' rfl ?_)
              | (refine Go.lf' rfl ?_)
              | ((with_reducible refine Go.bool ?_ ?_) <;> intro hc <;> (try simp only [List.length_map, ne_eq, hcs] at hc) <;> try (exfalso; omega))
              | ((with_reducible refine Res.eq ?_ ?_); (· exact aFit)))
          refine Go.callN (swap_call q l1 _ _ d1 hs1 k (2 * k + 2) hk (by omega) (by omega)) ?_
          rintro _ H2 n2 ⟨hn2, hs2, hfr2⟩
          have hp2 := hp.swap (swapL_len l1 k (2 * k + 2)) hs2 hfr2 (by omega)
          repeat' (first
              | ((with_reducible refine Go.red ?_); conv => whnf)
              | (with_reducible refine Go.and ?_ ?_)
              | (with_reducible exact True.intro)
              | (with_reducible refine Go.far ?_)
              | ((with_reducible refine Apt.mk ?_); (try dsimp only); omega)
              | (with_reducible exact Go.askRep)
              | ((with_reducible refine Ask.mk ?_); first | exact aAsk | exact aAsk2)
              | ((with_reducible refine Go.ari64 ?_ ?_ ?_); (· exact aBnd); (· exact aBnd))
              | ((with_reducible refine Go.ariu8 ?_ ?_ ?_); (· exact aBnd); (· exact aBnd))
              | (with_reducible refine Go.ari0 ?_)
              | (apply Go.elem; (· exact aElem))
              | (apply Go.row; (· exact aRow))
              | (apply Go.map; (· exact aRow))
              | (apply Go.gives; (· exact aGives))
              | (apply Go.gives; (· exact aRes))
              | (with_reducible refine Go.unroll ?_)
              | (with_reducible refine Go.drawn ?_)
              | (refine Go.gt rfl ?_)
              | (refine Go.gf rfl ?_)
              | (with_reducible refine Go.join ?_)
              | (refine Go.lt' rfl ?_)
              | (refine Go.lf' rfl ?_)
              | ((with_reducible refine Go.bool ?_ ?_) <;> intro hc <;> (try simp only [List.length_map, ne_eq, hcs] at hc) <;> try (exfalso; omega))
              | ((with_reducible refine Res.eq ?_ ?_); (· exact aFit)))
          exact ⟨(f, 2 * k + 2, swapL l1 k (2 * k + 2)), by dsimp only; omega, aLess, by dsimp only; omega, by dsimp only; rw [swapL_len]; omega, by dsimp only; rw [swapL_len]; omega, he, aNx, hp2, fun y hy n1 n2 => (hfr2 y (by omega) n2).trans (hfr y hy n1 n2)⟩
        · rw [if_neg hlt] at he
          have hdl : decide (l1.getD (2 * k + 2) 0 < l1.getD k 0) = false := decide_eq_false hlt
          repeat' (first
              | ((with_reducible refine Go.red ?_); conv => whnf)
              | (with_reducible refine Go.and ?_ ?_)
              | (with_reducible exact True.intro)
              | (with_reducible refine Go.far ?_)
              | ((with_reducible refine Apt.mk ?_); (try dsimp only); omega)
              | (with_reducible exact Go.askRep)
              | ((with_reducible refine Ask.mk ?_); first | exact aAsk | exact aAsk2)
              | ((with_reducible refine Go.ari64 ?_ ?_ ?_); (· exact aBnd); (· exact aBnd))
              | ((with_reducible refine Go.ariu8 ?_ ?_ ?_); (· exact aBnd); (· exact aBnd))
              | (with_reducible refine Go.ari0 ?_)
              | (apply Go.elem; (· exact aElem))
              | (apply Go.row; (· exact aRow))
              | (apply Go.map; (· exact aRow))
              | (apply Go.gives; (· exact aGives))
              | (apply Go.gives; (· exact aRes))
              | (with_reducible refine Go.unroll ?_)
              | (with_reducible refine Go.drawn ?_)
              | ((refine Go.lookW ((less_look q l1 _ _ d1 hs1 (2 * k + 2) (2 * k + 1) (by omega) (by omega))) ?_ ?_); (· exact True.intro))
              | ((refine Go.lookJ (fun _ => (less_look q l1 _ _ d1 hs1 (2 * k + 2) (2 * k + 1) (by omega) (by omega))) ?_ ?_); (· exact True.intro))
              | ((refine Go.lookW ((less_look q l1 _ _ d1 hs1 (2 * k + 2) k (by omega) hk)) ?_ ?_); (· exact True.intro))
              | ((refine Go.lookJ (fun _ => (less_look q l1 _ _ d1 hs1 (2 * k + 2) k (by omega) hk)) ?_ ?_); (· exact True.intro))
              | (simp only [e1])
              | (simp only [e2])
              | (simp only [hdA])
              | (simp only [hng])
              | (simp only [hdB])
              | (simp only [hdC])
              | (simp only [hdl])
              | ((with_reducible apply goLess); (· exact hlook); (· exact rfl))
              | ((with_reducible apply goSwap); (· exact hlook); (· exact rfl))
              | (refine Go.gt rfl ?_)
              | (refine Go.gf rfl ?_)
              | (with_reducible refine Go.join ?_)
              | (refine Go.lt' rfl ?_)
              | (refine Go.lf' rfl ?_)
              | ((with_reducible refine Go.bool ?_ ?_) <;> intro hc <;> (try simp only [List.length_map, ne_eq, hcs] at hc) <;> try (exfalso; omega))
              | ((with_reducible refine Res.eq ?_ ?_); (· exact aFit)))
          exact ⟨⟨aNx, by rw [he]; exact hp, hfr⟩⟩
      · have hdC : decide (l1.getD (2 * k + 2) 0 < l1.getD (2 * k + 1) 0) = false := decide_eq_false hC
        have hJ : downJ l1 k n = 2 * k + 1 := by unfold downJ; rw [if_neg (fun hh => hC hh.2)]
        rw [hJ] at he
        by_cases hlt : l1.getD (2 * k + 1) 0 < l1.getD k 0
        · rw [if_pos hlt] at he
          have hdl : decide (l1.getD (2 * k + 1) 0 < l1.getD k 0) = true := decide_eq_true hlt
          repeat' (first
              | ((with_reducible refine Go.red ?_); conv => whnf)
              | (with_reducible refine Go.and ?_ ?_)
              | (with_reducible exact True.intro)
              | (with_reducible refine Go.far ?_)
              | ((with_reducible refine Apt.mk ?_); (try dsimp only); omega)
              | (with_reducible exact Go.askRep)
              | ((with_reducible refine Ask.mk ?_); first | exact aAsk | exact aAsk2)
              | ((with_reducible refine Go.ari64 ?_ ?_ ?_); (· exact aBnd); (· exact aBnd))
              | ((with_reducible refine Go.ariu8 ?_ ?_ ?_); (· exact aBnd); (· exact aBnd))
              | (with_reducible refine Go.ari0 ?_)
              | (apply Go.elem; (· exact aElem))
              | (apply Go.row; (· exact aRow))
              | (apply Go.map; (· exact aRow))
              | (apply Go.gives; (· exact aGives))
              | (apply Go.gives; (· exact aRes))
              | (with_reducible refine Go.unroll ?_)
              | (with_reducible refine Go.drawn ?_)
              | ((refine Go.lookW ((less_look q l1 _ _ d1 hs1 (2 * k + 2) (2 * k + 1) (by omega) (by omega))) ?_ ?_); (· exact True.intro))
              | ((refine Go.lookJ (fun _ => (less_look q l1 _ _ d1 hs1 (2 * k + 2) (2 * k + 1) (by omega) (by omega))) ?_ ?_); (· exact True.intro))
              | ((refine Go.lookW ((less_look q l1 _ _ d1 hs1 (2 * k + 1) k (by omega) hk)) ?_ ?_); (· exact True.intro))
              | ((refine Go.lookJ (fun _ => (less_look q l1 _ _ d1 hs1 (2 * k + 1) k (by omega) hk)) ?_ ?_); (· exact True.intro))
              | (simp only [e1])
              | (simp only [e2])
              | (simp only [hdA])
              | (simp only [hng])
              | (simp only [hdB])
              | (simp only [hdC])
              | (simp only [hdl])
              | ((with_reducible apply goLess); (· exact hlook); (· exact rfl))
              | ((with_reducible apply goSwap); (· exact hlook); (· exact rfl))
              | (refine Go.gt rfl ?_)
              | (refine Go.gf rfl ?_)
              | (with_reducible refine Go.join ?_)
              | (refine Go.lt' rfl ?_)
              | (refine Go.lf' rfl ?_)
              | ((with_reducible refine Go.bool ?_ ?_) <;> intro hc <;> (try simp only [List.length_map, ne_eq, hcs] at hc) <;> try (exfalso; omega))
              | ((with_reducible refine Res.eq ?_ ?_); (· exact aFit)))
          refine Go.callN (swap_call q l1 _ _ d1 hs1 k (2 * k + 1) hk (by omega) (by omega)) ?_
          rintro _ H2 n2 ⟨hn2, hs2, hfr2⟩
          have hp2 := hp.swap (swapL_len l1 k (2 * k + 1)) hs2 hfr2 (by omega)
          repeat' (first
              | ((with_reducible refine Go.red ?_); conv => whnf)
              | (with_reducible refine Go.and ?_ ?_)
              | (with_reducible exact True.intro)
              | (with_reducible refine Go.far ?_)
              | ((with_reducible refine Apt.mk ?_); (try dsimp only); omega)
              | (with_reducible exact Go.askRep)
              | ((with_reducible refine Ask.mk ?_); first | exact aAsk | exact aAsk2)
              | ((with_reducible refine Go.ari64 ?_ ?_ ?_); (· exact aBnd); (· exact aBnd))
              | ((with_reducible refine Go.ariu8 ?_ ?_ ?_); (· exact aBnd); (· exact aBnd))
              | (with_reducible refine Go.ari0 ?_)
              | (apply Go.elem; (· exact aElem))
              | (apply Go.row; (· exact aRow))
              | (apply Go.map; (· exact aRow))
              | (apply Go.gives; (· exact aGives))
              | (apply Go.gives; (· exact aRes))
              | (with_reducible refine Go.unroll ?_)
              | (with_reducible refine Go.drawn ?_)
              | (refine Go.gt rfl ?_)
              | (refine Go.gf rfl ?_)
              | (with_reducible refine Go.join ?_)
              | (refine Go.lt' rfl ?_)
              | (refine Go.lf' rfl ?_)
              | ((with_reducible refine Go.bool ?_ ?_) <;> intro hc <;> (try simp only [List.length_map, ne_eq, hcs] at hc) <;> try (exfalso; omega))
              | ((with_reducible refine Res.eq ?_ ?_); (· exact aFit)))
          exact ⟨(f, 2 * k + 1, swapL l1 k (2 * k + 1)), by dsimp only; omega, aLess, by dsimp only; omega, by dsimp only; rw [swapL_len]; omega, by dsimp only; rw [swapL_len]; omega, he, aNx, hp2, fun y hy n1 n2 => (hfr2 y (by omega) n2).trans (hfr y hy n1 n2)⟩
        · rw [if_neg hlt] at he
          have hdl : decide (l1.getD (2 * k + 1) 0 < l1.getD k 0) = false := decide_eq_false hlt
          repeat' (first
              | ((with_reducible refine Go.red ?_); conv => whnf)
              | (with_reducible refine Go.and ?_ ?_)
              | (with_reducible exact True.intro)
              | (with_reducible refine Go.far ?_)
              | ((with_reducible refine Apt.mk ?_); (try dsimp only); omega)
              | (with_reducible exact Go.askRep)
              | ((with_reducible refine Ask.mk ?_); first | exact aAsk | exact aAsk2)
              | ((with_reducible refine Go.ari64 ?_ ?_ ?_); (· exact aBnd); (· exact aBnd))
              | ((with_reducible refine Go.ariu8 ?_ ?_ ?_); (· exact aBnd); (· exact aBnd))
              | (with_reducible refine Go.ari0 ?_)
              | (apply Go.elem; (· exact aElem))
              | (apply Go.row; (· exact aRow))
              | (apply Go.map; (· exact aRow))
              | (apply Go.gives; (· exact aGives))
              | (apply Go.gives; (· exact aRes))
              | (with_reducible refine Go.unroll ?_)
              | (with_reducible refine Go.drawn ?_)
              | ((refine Go.lookW ((less_look q l1 _ _ d1 hs1 (2 * k + 2) (2 * k + 1) (by omega) (by omega))) ?_ ?_); (· exact True.intro))
              | ((refine Go.lookJ (fun _ => (less_look q l1 _ _ d1 hs1 (2 * k + 2) (2 * k + 1) (by omega) (by omega))) ?_ ?_); (· exact True.intro))
              | ((refine Go.lookW ((less_look q l1 _ _ d1 hs1 (2 * k + 1) k (by omega) hk)) ?_ ?_); (· exact True.intro))
              | ((refine Go.lookJ (fun _ => (less_look q l1 _ _ d1 hs1 (2 * k + 1) k (by omega) hk)) ?_ ?_); (· exact True.intro))
              | (simp only [e1])
              | (simp only [e2])
              | (simp only [hdA])
              | (simp only [hng])
              | (simp only [hdB])
              | (simp only [hdC])
              | (simp only [hdl])
              | ((with_reducible apply goLess); (· exact hlook); (· exact rfl))
              | ((with_reducible apply goSwap); (· exact hlook); (· exact rfl))
              | (refine Go.gt rfl ?_)
              | (refine Go.gf rfl ?_)
              | (with_reducible refine Go.join ?_)
              | (refine Go.lt' rfl ?_)
              | (refine Go.lf' rfl ?_)
              | ((with_reducible refine Go.bool ?_ ?_) <;> intro hc <;> (try simp only [List.length_map, ne_eq, hcs] at hc) <;> try (exfalso; omega))
              | ((with_reducible refine Res.eq ?_ ?_); (· exact aFit)))
          exact ⟨⟨aNx, by rw [he]; exact hp, hfr⟩⟩
    · have hdB : decide (((2 * k + 2 : Nat) : Int) < (n : Int)) = false := decide_eq_false (by omega)
      have hJ : downJ l1 k n = 2 * k + 1 := by unfold downJ; rw [if_neg (fun hh => hB hh.1)]
      rw [hJ] at he
      by_cases hlt : l1.getD (2 * k + 1) 0 < l1.getD k 0
      · rw [if_pos hlt] at he
        have hdl : decide (l1.getD (2 * k + 1) 0 < l1.getD k 0) = true := decide_eq_true hlt
        repeat' (first
            | ((with_reducible refine Go.red ?_); conv => whnf)
            | (with_reducible refine Go.and ?_ ?_)
            | (with_reducible exact True.intro)
            | (with_reducible refine Go.far ?_)
            | ((with_reducible refine Apt.mk ?_); (try dsimp only); omega)
            | (with_reducible exact Go.askRep)
            | ((with_reducible refine Ask.mk ?_); first | exact aAsk | exact aAsk2)
            | ((with_reducible refine Go.ari64 ?_ ?_ ?_); (· exact aBnd); (· exact aBnd))
            | ((with_reducible refine Go.ariu8 ?_ ?_ ?_); (· exact aBnd); (· exact aBnd))
            | (with_reducible refine Go.ari0 ?_)
            | (apply Go.elem; (· exact aElem))
            | (apply Go.row; (· exact aRow))
            | (apply Go.map; (· exact aRow))
            | (apply Go.gives; (· exact aGives))
            | (apply Go.gives; (· exact aRes))
            | (with_reducible refine Go.unroll ?_)
            | (with_reducible refine Go.drawn ?_)
            | ((refine Go.lookW ((less_look q l1 _ _ d1 hs1 (2 * k + 1) k (by omega) hk)) ?_ ?_); (· exact True.intro))
            | ((refine Go.lookJ (fun _ => (less_look q l1 _ _ d1 hs1 (2 * k + 1) k (by omega) hk)) ?_ ?_); (· exact True.intro))
            | (simp only [e1])
            | (simp only [e2])
            | (simp only [hdA])
            | (simp only [hng])
            | (simp only [hdB])
            | (simp only [hdl])
            | ((with_reducible apply goLess); (· exact hlook); (· exact rfl))
            | ((with_reducible apply goSwap); (· exact hlook); (· exact rfl))
            | (refine Go.gt rfl ?_)
            | (refine Go.gf rfl ?_)
            | (with_reducible refine Go.join ?_)
            | (refine Go.lt' rfl ?_)
            | (refine Go.lf' rfl ?_)
            | ((with_reducible refine Go.bool ?_ ?_) <;> intro hc <;> (try simp only [List.length_map, ne_eq, hcs] at hc) <;> try (exfalso; omega))
            | ((with_reducible refine Res.eq ?_ ?_); (· exact aFit)))
        refine Go.callN (swap_call q l1 _ _ d1 hs1 k (2 * k + 1) hk (by omega) (by omega)) ?_
        rintro _ H2 n2 ⟨hn2, hs2, hfr2⟩
        have hp2 := hp.swap (swapL_len l1 k (2 * k + 1)) hs2 hfr2 (by omega)
        repeat' (first
            | ((with_reducible refine Go.red ?_); conv => whnf)
            | (with_reducible refine Go.and ?_ ?_)
            | (with_reducible exact True.intro)
            | (with_reducible refine Go.far ?_)
            | ((with_reducible refine Apt.mk ?_); (try dsimp only); omega)
            | (with_reducible exact Go.askRep)
            | ((with_reducible refine Ask.mk ?_); first | exact aAsk | exact aAsk2)
            | ((with_reducible refine Go.ari64 ?_ ?_ ?_); (· exact aBnd); (· exact aBnd))
            | ((with_reducible refine Go.ariu8 ?_ ?_ ?_); (· exact aBnd); (· exact aBnd))
            | (with_reducible refine Go.ari0 ?_)
            | (apply Go.elem; (· exact aElem))
            | (apply Go.row; (· exact aRow))
            | (apply Go.map; (· exact aRow))
            | (apply Go.gives; (· exact aGives))
            | (apply Go.gives; (· exact aRes))
            | (with_reducible refine Go.unroll ?_)
            | (with_reducible refine Go.drawn ?_)
            | (refine Go.gt rfl ?_)
            | (refine Go.gf rfl ?_)
            | (with_reducible refine Go.join ?_)
            | (refine Go.lt' rfl ?_)
            | (refine Go.lf' rfl ?_)
            | ((with_reducible refine Go.bool ?_ ?_) <;> intro hc <;> (try simp only [List.length_map, ne_eq, hcs] at hc) <;> try (exfalso; omega))
            | ((with_reducible refine Res.eq ?_ ?_); (· exact aFit)))
        exact ⟨(f, 2 * k + 1, swapL l1 k (2 * k + 1)), by dsimp only; omega, aLess, by dsimp only; omega, by dsimp only; rw [swapL_len]; omega, by dsimp only; rw [swapL_len]; omega, he, aNx, hp2, fun y hy n1 n2 => (hfr2 y (by omega) n2).trans (hfr y hy n1 n2)⟩
      · rw [if_neg hlt] at he
        have hdl : decide (l1.getD (2 * k + 1) 0 < l1.getD k 0) = false := decide_eq_false hlt
        repeat' (first
            | ((with_reducible refine Go.red ?_); conv => whnf)
            | (with_reducible refine Go.and ?_ ?_)
            | (with_reducible exact True.intro)
            | (with_reducible refine Go.far ?_)
            | ((with_reducible refine Apt.mk ?_); (try dsimp only); omega)
            | (with_reducible exact Go.askRep)
            | ((with_reducible refine Ask.mk ?_); first | exact aAsk | exact aAsk2)
            | ((with_reducible refine Go.ari64 ?_ ?_ ?_); (· exact aBnd); (· exact aBnd))
            | ((with_reducible refine Go.ariu8 ?_ ?_ ?_); (· exact aBnd); (· exact aBnd))
            | (with_reducible refine Go.ari0 ?_)
            | (apply Go.elem; (· exact aElem))
            | (apply Go.row; (· exact aRow))
            | (apply Go.map; (· exact aRow))
            | (apply Go.gives; (· exact aGives))
            | (apply Go.gives; (· exact aRes))
            | (with_reducible refine Go.unroll ?_)
            | (with_reducible refine Go.drawn ?_)
            | ((refine Go.lookW ((less_look q l1 _ _ d1 hs1 (2 * k + 1) k (by omega) hk)) ?_ ?_); (· exact True.intro))
            | ((refine Go.lookJ (fun _ => (less_look q l1 _ _ d1 hs1 (2 * k + 1) k (by omega) hk)) ?_ ?_); (· exact True.intro))
            | (simp only [e1])
            | (simp only [e2])
            | (simp only [hdA])
            | (simp only [hng])
            | (simp only [hdB])
            | (simp only [hdl])
            | ((with_reducible apply goLess); (· exact hlook); (· exact rfl))
            | ((with_reducible apply goSwap); (· exact hlook); (· exact rfl))
            | (refine Go.gt rfl ?_)
            | (refine Go.gf rfl ?_)
            | (with_reducible refine Go.join ?_)
            | (refine Go.lt' rfl ?_)
            | (refine Go.lf' rfl ?_)
            | ((with_reducible refine Go.bool ?_ ?_) <;> intro hc <;> (try simp only [List.length_map, ne_eq, hcs] at hc) <;> try (exfalso; omega))
            | ((with_reducible refine Res.eq ?_ ?_); (· exact aFit)))
        exact ⟨⟨aNx, by rw [he]; exact hp, hfr⟩⟩
end Go.Proofs.Ytncllkpekbapjaa
