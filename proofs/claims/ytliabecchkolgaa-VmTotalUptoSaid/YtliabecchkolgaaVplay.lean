/- A schedule that is played on a new machine. -/
import Derived.Test.YtliabecchkolgaaVlook
namespace Go.Proofs.Ytliabecchkolgaa
open Go Go.Abs Go.Proofs
set_option linter.unusedSimpArgs false
set_option linter.unusedVariables false
/-- The machine ahead of step i. -/
def atS (o : Obj) (l : List StepV) (i : Nat) : Mach := (l.take i).foldl (fun s x => (stepS o s x.kind x.core).1) (initM o)
abbrev doesS (o : Obj) (l : List StepV) (i : Nat) : Mach × DidS × Int := stepS o (atS o l i) (l.getD i default).kind (l.getD i default).core
theorem atS_zero (o : Obj) (l : List StepV) : atS o l 0 = initM o := rfl
theorem atS_next {o : Obj} {l : List StepV} {i : Nat} (h : i < l.length) : atS o l (i + 1) = (doesS o l i).1 := by
  rw [atS, List.take_succ_eq_append_getElem h, List.foldl_append]
  simp [doesS, atS, List.getD, h]
theorem atS_good {o : Obj} (ok : ObjOk o) (l : List StepV) : ∀ i, i ≤ l.length → Good o (atS o l i) ∧ (atS o l i).prints.length ≤ i
  | 0, _ => ⟨good_init ok, by simp [atS, initM]⟩
  | i + 1, h => by
    have h1 := atS_good ok l i (by omega)
    rw [atS_next (by omega)]
    exact ⟨h1.1.step ok _ _, Nat.le_trans (prints_step o (atS o l i) (l.getD i default).kind (l.getD i default).core) (Nat.succ_le_succ h1.2)⟩
def didsS (o : Obj) (l : List StepV) (n : Nat) : List AV := (List.range n).map fun i => (doesS o l i).2.1.av
def errsS (o : Obj) (l : List StepV) (n : Nat) : List AV := (List.range n).map fun i => i64 (doesS o l i).2.2
theorem didsS_next (o : Obj) (l : List StepV) (n : Nat) : didsS o l (n + 1) = didsS o l n ++ [(doesS o l n).2.1.av] := by simp [didsS, List.range_succ]
theorem errsS_next (o : Obj) (l : List StepV) (n : Nat) : errsS o l (n + 1) = errsS o l n ++ [i64 (doesS o l n).2.2] := by simp [errsS, List.range_succ]
@[simp] theorem fit_dids (k : Nat) (o : Obj) (l : List StepV) (n : Nat) : fitL k (didsS o l n) := by simp [didsS, fitL_map, fitA, fitL]
@[simp] theorem fit_errs (k : Nat) (o : Obj) (l : List StepV) (n : Nat) : fitL k (errsS o l n) := by simp [errsS, fitL_map, fitA]
theorem unforce3 {x y z : AV} {R : AV → Prop} (h : R (.tup [x, y, z])) : forceT [x, y, z] (fun l => R (.tup l)) := by rw [forceT_eq]; exact h
theorem play_bad {o : Obj} (ho : o.Wf) (h : objOk o = false) (l : List StepV) : Pure Try.prog 21 [o.av, .im 2 .any (l.map StepV.av)] (fun r => r = .tup [.sc (.slice none 0 0), .sc (.slice none 0 0), i64 160]) := by
  refine Go.pure Try.func21 nm21 low21 res21 nt21 rfl ?_
  repeat' (first
    | ((with_reducible refine Go.red ?_); conv => whnf)
    | (with_reducible refine Go.and ?_ ?_)
    | (with_reducible exact True.intro)
    | (with_reducible refine Go.far ?_)
    | ((with_reducible refine Apt.mk ?_); (try dsimp only); omega)
    | ((with_reducible refine Ask.mk ?_); first | exact aAsk | exact aAsk2)
    | ((with_reducible refine Go.ari64 ?_ ?_ ?_); (· exact aBnd); (· exact aBnd))
    | ((with_reducible refine Go.ariu8 ?_ ?_ ?_); (· exact aBnd); (· exact aBnd))
    | (with_reducible refine Go.ari0 ?_)
    | (apply Go.elem; (· exact aElem))
    | (apply Go.row; (· exact aRow))
    | (apply Go.gives; (· exact aGives))
    | (apply Go.gives; (· exact aRes))
    | (with_reducible refine Go.unroll ?_)
    | (refine Go.gt rfl ?_)
    | (refine Go.gf rfl ?_)
    | (with_reducible refine Go.join ?_)
    | (refine Go.lt' rfl ?_)
    | (refine Go.lf' rfl ?_)
    | ((with_reducible refine Go.bool ?_ ?_) <;> intro hc <;> (try simp only [List.length_map, ne_eq, hcs] at hc) <;> try (exfalso; omega))
    | ((with_reducible refine Res.eq ?_ ?_); (· exact aFit)))
  refine Go.callN (new_bad ho h) ?_
  rintro _ H2 n2 ⟨rfl, h1, h3⟩
  repeat' (first
    | ((with_reducible refine Go.red ?_); conv => whnf)
    | (with_reducible refine Go.and ?_ ?_)
    | (with_reducible exact True.intro)
    | (with_reducible refine Go.far ?_)
    | ((with_reducible refine Apt.mk ?_); (try dsimp only); omega)
    | ((with_reducible refine Ask.mk ?_); first | exact aAsk | exact aAsk2)
    | ((with_reducible refine Go.ari64 ?_ ?_ ?_); (· exact aBnd); (· exact aBnd))
    | ((with_reducible refine Go.ariu8 ?_ ?_ ?_); (· exact aBnd); (· exact aBnd))
    | (with_reducible refine Go.ari0 ?_)
    | (apply Go.elem; (· exact aElem))
    | (apply Go.row; (· exact aRow))
    | (apply Go.gives; (· exact aGives))
    | (apply Go.gives; (· exact aRes))
    | (with_reducible refine Go.unroll ?_)
    | (refine Go.gt rfl ?_)
    | (refine Go.gf rfl ?_)
    | (with_reducible refine Go.join ?_)
    | (refine Go.lt' rfl ?_)
    | (refine Go.lf' rfl ?_)
    | ((with_reducible refine Go.bool ?_ ?_) <;> intro hc <;> (try simp only [List.length_map, ne_eq, hcs] at hc) <;> try (exfalso; omega))
    | ((with_reducible refine Res.eq ?_ ?_); (· exact aFit)))
  all_goals exact rfl
theorem play_many {o : Obj} (ho : o.Wf) (h : objOk o = true) (l : List StepV) (hl : 1048576 < l.length) : Pure Try.prog 21 [o.av, .im 2 .any (l.map StepV.av)] (fun r => r = .tup [.sc (.slice none 0 0), .sc (.slice none 0 0), i64 3]) := by
  refine Go.pure Try.func21 nm21 low21 res21 nt21 rfl ?_
  repeat' (first
    | ((with_reducible refine Go.red ?_); conv => whnf)
    | (with_reducible refine Go.and ?_ ?_)
    | (with_reducible exact True.intro)
    | (with_reducible refine Go.far ?_)
    | ((with_reducible refine Apt.mk ?_); (try dsimp only); omega)
    | ((with_reducible refine Ask.mk ?_); first | exact aAsk | exact aAsk2)
    | ((with_reducible refine Go.ari64 ?_ ?_ ?_); (· exact aBnd); (· exact aBnd))
    | ((with_reducible refine Go.ariu8 ?_ ?_ ?_); (· exact aBnd); (· exact aBnd))
    | (with_reducible refine Go.ari0 ?_)
    | (apply Go.elem; (· exact aElem))
    | (apply Go.row; (· exact aRow))
    | (apply Go.gives; (· exact aGives))
    | (apply Go.gives; (· exact aRes))
    | (with_reducible refine Go.unroll ?_)
    | (refine Go.gt rfl ?_)
    | (refine Go.gf rfl ?_)
    | (with_reducible refine Go.join ?_)
    | (refine Go.lt' rfl ?_)
    | (refine Go.lf' rfl ?_)
    | ((with_reducible refine Go.bool ?_ ?_) <;> intro hc <;> (try simp only [List.length_map, ne_eq, hcs] at hc) <;> try (exfalso; omega))
    | ((with_reducible refine Res.eq ?_ ?_); (· exact aFit)))
  refine Go.callN (new_ok ho (objOk_ok h) h) ?_
  rintro _ H2 n2 ⟨L, rfl, hM, h1, h2, h3⟩
  repeat' (first
    | ((with_reducible refine Go.red ?_); conv => whnf)
    | (with_reducible refine Go.and ?_ ?_)
    | (with_reducible exact True.intro)
    | (with_reducible refine Go.far ?_)
    | ((with_reducible refine Apt.mk ?_); (try dsimp only); omega)
    | ((with_reducible refine Ask.mk ?_); first | exact aAsk | exact aAsk2)
    | ((with_reducible refine Go.ari64 ?_ ?_ ?_); (· exact aBnd); (· exact aBnd))
    | ((with_reducible refine Go.ariu8 ?_ ?_ ?_); (· exact aBnd); (· exact aBnd))
    | (with_reducible refine Go.ari0 ?_)
    | (apply Go.elem; (· exact aElem))
    | (apply Go.row; (· exact aRow))
    | (apply Go.gives; (· exact aGives))
    | (apply Go.gives; (· exact aRes))
    | (with_reducible refine Go.unroll ?_)
    | (refine Go.gt rfl ?_)
    | (refine Go.gf rfl ?_)
    | (with_reducible refine Go.join ?_)
    | (refine Go.lt' rfl ?_)
    | (refine Go.lf' rfl ?_)
    | ((with_reducible refine Go.bool ?_ ?_) <;> intro hc <;> (try simp only [List.length_map, ne_eq, hcs] at hc) <;> try (exfalso; omega))
    | ((with_reducible refine Res.eq ?_ ?_); (· exact aFit)))
  · exact rfl
  · exfalso
    rcases hc with hc | hc
    · exact hc trivial
    · omega
theorem play_ok0 {o : Obj} (ho : o.Wf) (h : objOk o = true) (l : List StepV) (hl : l.length ≤ 1048576) (h0 : 0 < l.length) : Pure Try.prog 21 [o.av, .im 2 .any (l.map StepV.av)] (fun r => r = .tup [.im 7 .any (didsS o l l.length), .im 1 .any (errsS o l l.length), i64 0]) := by
  refine Go.pure Try.func21 nm21 low21 res21 nt21 rfl ?_
  repeat' (first
    | ((with_reducible refine Go.red ?_); conv => whnf)
    | (with_reducible refine Go.and ?_ ?_)
    | (with_reducible exact True.intro)
    | (with_reducible refine Go.far ?_)
    | ((with_reducible refine Apt.mk ?_); (try dsimp only); omega)
    | ((with_reducible refine Ask.mk ?_); first | exact aAsk | exact aAsk2)
    | ((with_reducible refine Go.ari64 ?_ ?_ ?_); (· exact aBnd); (· exact aBnd))
    | ((with_reducible refine Go.ariu8 ?_ ?_ ?_); (· exact aBnd); (· exact aBnd))
    | (with_reducible refine Go.ari0 ?_)
    | (apply Go.elem; (· exact aElem))
    | (apply Go.row; (· exact aRow))
    | (apply Go.gives; (· exact aGives))
    | (apply Go.gives; (· exact aRes))
    | (with_reducible refine Go.unroll ?_)
    | (refine Go.gt rfl ?_)
    | (refine Go.gf rfl ?_)
    | (with_reducible refine Go.join ?_)
    | (refine Go.lt' rfl ?_)
    | (refine Go.lf' rfl ?_)
    | ((with_reducible refine Go.bool ?_ ?_) <;> intro hc <;> (try simp only [List.length_map, ne_eq, hcs] at hc) <;> try (exfalso; omega))
    | ((with_reducible refine Res.eq ?_ ?_); (· exact aFit)))
  refine Go.callN (new_ok ho (objOk_ok h) h) ?_
  rintro _ H2 n2 ⟨L, rfl, hM, h1, h2, h3⟩
  repeat' (first
    | ((with_reducible refine Go.red ?_); conv => whnf)
    | (with_reducible refine Go.and ?_ ?_)
    | (with_reducible exact True.intro)
    | (with_reducible refine Go.far ?_)
    | ((with_reducible refine Apt.mk ?_); (try dsimp only); omega)
    | ((with_reducible refine Ask.mk ?_); first | exact aAsk | exact aAsk2)
    | ((with_reducible refine Go.ari64 ?_ ?_ ?_); (· exact aBnd); (· exact aBnd))
    | ((with_reducible refine Go.ariu8 ?_ ?_ ?_); (· exact aBnd); (· exact aBnd))
    | (with_reducible refine Go.ari0 ?_)
    | (apply Go.elem; (· exact aElem))
    | (apply Go.row; (· exact aRow))
    | (apply Go.gives; (· exact aGives))
    | (apply Go.gives; (· exact aRes))
    | (with_reducible refine Go.unroll ?_)
    | (refine Go.gt rfl ?_)
    | (refine Go.gf rfl ?_)
    | (with_reducible refine Go.join ?_)
    | (refine Go.lt' rfl ?_)
    | (refine Go.lf' rfl ?_)
    | ((with_reducible refine Go.bool ?_ ?_) <;> intro hc <;> (try simp only [List.length_map, ne_eq, hcs] at hc) <;> try (exfalso; omega))
    | ((with_reducible refine Res.eq ?_ ?_); (· exact aFit)))
  have ok := objOk_ok h
  have hM2 : MAt o (initM o) L H2 n2 := hM
  refine Go.loop (fun p : Nat × AV × AV => [(7, .pt L.m 1 0 0), (30, .im 2 .any (l.map StepV.av)), (31, i64 l.length), (32, i64 p.1), (9, p.2.1), (10, p.2.2)]) (fun p H n => p.1 ≤ l.length ∧ (∃ L', L'.m = L.m ∧ MAt o (atS o l p.1) L' H n ∧ ((p.1 = 0 ∧ p.2 = (.sc (.slice none 0 0), .sc (.slice none 0 0))) ∨ ∃ a b, 0 < p.1 ∧ p.2 = (.sl a p.1, .sl b p.1) ∧ a < n ∧ b < n ∧ a ≠ b ∧ a ∉ L'.ids ∧ b ∉ L'.ids ∧ (∃ d es, getH H a = some (.row 33 7 d es) ∧ es = didsS o l p.1) ∧ (∃ d es, getH H b = some (.row 34 1 d es) ∧ es = errsS o l p.1))))
    (fun p => l.length - p.1) (0, .sc (.slice none 0 0), .sc (.slice none 0 0)) ?_ ⟨Nat.zero_le _, L, rfl, hM.keep aKeep aNx, .inl ⟨rfl, rfl⟩⟩ ?_
  · rw [show (l.length : Int) = (l.map StepV.av).length by simp]; exact aLess
  rintro ⟨i, v⟩ H n ⟨hi, L', hLm, hM', hv⟩
  simp only at hi hM' hv
  dsimp only
  rw [← hLm]
  clear hM hM2 h1 h2 h3
  have hg := atS_good ok l i hi
  by_cases hil : i < l.length
  · rcases hv with ⟨rfl, rfl⟩ | ⟨a, b, hi0, rfl, ha, hb, hab, haL, hbL, ⟨da, ea, ra, hea⟩, ⟨db, eb, rb, heb⟩⟩
    · repeat' (first
          | ((with_reducible refine Go.red ?_); conv => whnf)
          | (with_reducible refine Go.and ?_ ?_)
          | (with_reducible exact True.intro)
          | (with_reducible refine Go.far ?_)
          | ((with_reducible refine Apt.mk ?_); (try dsimp only); omega)
          | ((with_reducible refine Ask.mk ?_); first | exact aAsk | exact aAsk2)
          | ((with_reducible refine Go.ari64 ?_ ?_ ?_); (· exact aBnd); (· exact aBnd))
          | ((with_reducible refine Go.ariu8 ?_ ?_ ?_); (· exact aBnd); (· exact aBnd))
          | (with_reducible refine Go.ari0 ?_)
          | (apply Go.elem; (· exact aElem))
          | (apply Go.row; (· exact aRow))
          | (apply Go.gives; (· exact aGives))
          | (apply Go.gives; (· exact aRes))
          | (with_reducible refine Go.unroll ?_)
          | (refine Go.gt rfl ?_)
          | (refine Go.gf rfl ?_)
          | (with_reducible refine Go.join ?_)
          | (refine Go.lt' rfl ?_)
          | (refine Go.lf' rfl ?_)
          | ((with_reducible refine Go.bool ?_ ?_) <;> intro hc <;> (try simp only [List.length_map, ne_eq, hcs] at hc) <;> try (exfalso; omega))
          | ((with_reducible refine Res.eq ?_ ?_); (· exact aFit)))
      refine Go.callN (step_call (hM'.keep aKeep aNx) hg.1 ok (by omega) _ _) ?_
      rintro _ H3 n3 ⟨rfl, hn3, ⟨L3, hM3, hmv⟩, hfr3⟩
      have hn4 : n ≤ n3 := Nat.le_trans aNx hn3
      have hmm := hmv.m
      rw [← hmm]
      clear hfr3
      repeat' (first
          | ((with_reducible refine Go.red ?_); conv => whnf)
          | (with_reducible refine Go.and ?_ ?_)
          | (with_reducible exact True.intro)
          | (with_reducible refine Go.far ?_)
          | ((with_reducible refine Apt.mk ?_); (try dsimp only); omega)
          | ((with_reducible refine Ask.mk ?_); first | exact aAsk | exact aAsk2)
          | ((with_reducible refine Go.ari64 ?_ ?_ ?_); (· exact aBnd); (· exact aBnd))
          | ((with_reducible refine Go.ariu8 ?_ ?_ ?_); (· exact aBnd); (· exact aBnd))
          | (with_reducible refine Go.ari0 ?_)
          | (apply Go.elem; (· exact aElem))
          | (apply Go.row; (· exact aRow))
          | (apply Go.gives; (· exact aGives))
          | (apply Go.gives; (· exact aRes))
          | (with_reducible refine Go.unroll ?_)
          | (refine Go.gt rfl ?_)
          | (refine Go.gf rfl ?_)
          | (with_reducible refine Go.join ?_)
          | (refine Go.lt' rfl ?_)
          | (refine Go.lf' rfl ?_)
          | ((with_reducible refine Go.bool ?_ ?_) <;> intro hc <;> (try simp only [List.length_map, ne_eq, hcs] at hc) <;> try (exfalso; omega))
          | ((with_reducible refine Res.eq ?_ ?_); (· exact aFit)))
      have hL9 : ∀ b, n3 ≤ b → b ∉ L3.ids := fun b hb hm => by have := hM3.lt _ hm; omega
      refine ⟨(0 + 1, .sl (n3 + 9) 1, .sl (n3 + 14) 1), by show l.length - (0 + 1) < l.length - 0; omega, aLess, by show 0 + 1 ≤ l.length; omega, L3, rfl, ?_, .inr ⟨n3 + 9, n3 + 14, by show 0 < 0 + 1; omega, rfl, aNx, aNx, by omega, hL9 _ (by omega), hL9 _ (by omega), ⟨_, _, aRow, ?_⟩, ⟨_, _, aRow, ?_⟩⟩⟩
      · rw [atS_next hil]; exact hM3.keep aKeep aNx
      · show _ = didsS o l (0 + 1)
        rw [didsS_next]; rfl
      · show _ = errsS o l (0 + 1)
        rw [errsS_next]; rfl
    · have hal : ea.length = i := by rw [hea]; simp [didsS]
      have hbl : eb.length = i := by rw [heb]; simp [errsS]
      repeat' (first
          | ((with_reducible refine Go.red ?_); conv => whnf)
          | (with_reducible refine Go.and ?_ ?_)
          | (with_reducible exact True.intro)
          | (with_reducible refine Go.far ?_)
          | ((with_reducible refine Apt.mk ?_); (try dsimp only); omega)
          | ((with_reducible refine Ask.mk ?_); first | exact aAsk | exact aAsk2)
          | ((with_reducible refine Go.ari64 ?_ ?_ ?_); (· exact aBnd); (· exact aBnd))
          | ((with_reducible refine Go.ariu8 ?_ ?_ ?_); (· exact aBnd); (· exact aBnd))
          | (with_reducible refine Go.ari0 ?_)
          | (apply Go.elem; (· exact aElem))
          | (apply Go.row; (· exact aRow))
          | (apply Go.gives; (· exact aGives))
          | (apply Go.gives; (· exact aRes))
          | (with_reducible refine Go.unroll ?_)
          | (refine Go.gt rfl ?_)
          | (refine Go.gf rfl ?_)
          | (with_reducible refine Go.join ?_)
          | (refine Go.lt' rfl ?_)
          | (refine Go.lf' rfl ?_)
          | ((with_reducible refine Go.bool ?_ ?_) <;> intro hc <;> (try simp only [List.length_map, ne_eq, hcs] at hc) <;> try (exfalso; omega))
          | ((with_reducible refine Res.eq ?_ ?_); (· exact aFit)))
      refine Go.callN (step_call (hM'.keep aKeep aNx) hg.1 ok (by omega) _ _) ?_
      rintro _ H3 n3 ⟨rfl, hn3, ⟨L3, hM3, hmv⟩, hfr3⟩
      have hn4 : n ≤ n3 := Nat.le_trans aNx hn3
      have ra3 : getH H3 a = some (.row 33 7 da ea) := (hfr3 a aNx haL).trans aRow
      have rb3 : getH H3 b = some (.row 34 1 db eb) := (hfr3 b aNx hbL).trans aRow
      have hids : ∀ b, b ∈ L3.ids → b ∈ L'.ids ∨ n ≤ b := fun b hb => (hmv.ids b hb).imp id (fun hh => Nat.le_trans aNx hh)
      have hmm := hmv.m
      rw [← hmm]
      clear hfr3
      repeat' (first
          | ((with_reducible refine Go.red ?_); conv => whnf)
          | (with_reducible refine Go.and ?_ ?_)
          | (with_reducible exact True.intro)
          | (with_reducible refine Go.far ?_)
          | ((with_reducible refine Apt.mk ?_); (try dsimp only); omega)
          | ((with_reducible refine Ask.mk ?_); first | exact aAsk | exact aAsk2)
          | ((with_reducible refine Go.ari64 ?_ ?_ ?_); (· exact aBnd); (· exact aBnd))
          | ((with_reducible refine Go.ariu8 ?_ ?_ ?_); (· exact aBnd); (· exact aBnd))
          | (with_reducible refine Go.ari0 ?_)
          | (apply Go.elem; (· exact aElem))
          | (apply Go.row; (· exact aRow))
          | (apply Go.gives; (· exact aGives))
          | (apply Go.gives; (· exact aRes))
          | (with_reducible refine Go.unroll ?_)
          | (refine Go.gt rfl ?_)
          | (refine Go.gf rfl ?_)
          | (with_reducible refine Go.join ?_)
          | (refine Go.lt' rfl ?_)
          | (refine Go.lf' rfl ?_)
          | ((with_reducible refine Go.bool ?_ ?_) <;> intro hc <;> (try simp only [List.length_map, ne_eq, hcs] at hc) <;> try (exfalso; omega))
          | ((with_reducible refine Res.eq ?_ ?_); (· exact aFit)))
      have haL3 : a ∉ L3.ids := fun hm => (hids _ hm).elim haL (fun hh => by omega)
      have hbL3 : b ∉ L3.ids := fun hm => (hids _ hm).elim hbL (fun hh => by omega)
      refine ⟨(i + 1, .sl a (i + 1), .sl b (i + 1)), by show l.length - (i + 1) < l.length - i; omega, aLess, by show i + 1 ≤ l.length; omega, L3, rfl, ?_, .inr ⟨a, b, by show 0 < i + 1; omega, rfl, by exact Nat.lt_of_lt_of_le ha aNx, by exact Nat.lt_of_lt_of_le hb aNx, hab, haL3, hbL3, ⟨_, _, aRow, ?_⟩, ⟨_, _, aRow, ?_⟩⟩⟩
      · rw [atS_next hil]
        refine hM3.keepIds (fun x hx => ?_) aNx
        have h1 : x ≠ a := fun h => haL3 (h ▸ hx)
        have h2 : x ≠ b := fun h => hbL3 (h ▸ hx)
        have h3 := hM3.lt _ hx
        exact aSkip
      · show _ = didsS o l (i + 1)
        rw [didsS_next, hea]; rfl
      · show _ = errsS o l (i + 1)
        rw [errsS_next, heb]; rfl
  · have hin : i = l.length := by omega
    subst hin
    rcases hv with ⟨h0, rfl⟩ | ⟨a, b, hi0, rfl, ha, hb, hab, haL, hbL, ⟨da, ea, ra, hea⟩, ⟨db, eb, rb, heb⟩⟩
    · omega
    · repeat' (first
          | ((with_reducible refine Go.red ?_); conv => whnf)
          | (with_reducible refine Go.and ?_ ?_)
          | (with_reducible exact True.intro)
          | (with_reducible refine Go.far ?_)
          | ((with_reducible refine Apt.mk ?_); (try dsimp only); omega)
          | ((with_reducible refine Ask.mk ?_); first | exact aAsk | exact aAsk2)
          | ((with_reducible refine Go.ari64 ?_ ?_ ?_); (· exact aBnd); (· exact aBnd))
          | ((with_reducible refine Go.ariu8 ?_ ?_ ?_); (· exact aBnd); (· exact aBnd))
          | (with_reducible refine Go.ari0 ?_)
          | (apply Go.elem; (· exact aElem))
          | (apply Go.row; (· exact aRow))
          | (apply Go.gives; (· exact aGives))
          | (apply Go.gives; (· exact aRes))
          | (with_reducible refine Go.unroll ?_)
          | (refine Go.gt rfl ?_)
          | (refine Go.gf rfl ?_)
          | (with_reducible refine Go.join ?_)
          | (refine Go.lt' rfl ?_)
          | (refine Go.lf' rfl ?_)
          | ((with_reducible refine Go.bool ?_ ?_) <;> intro hc <;> (try simp only [List.length_map, ne_eq, hcs] at hc) <;> try (exfalso; omega))
          | ((with_reducible refine Res.eq ?_ ?_); (· exact aFit)))
      have hal : ea.length = l.length := by rw [hea]; simp [didsS]
      have hbl : eb.length = l.length := by rw [heb]; simp [errsS]
      have e1 : Abs.frz H 5 (.sl a l.length) = .im 7 .any (didsS o l l.length) := by
        rw [frz_sl ra hal, hea, frz_same 4 (fit_dids 0 o l _)]
      have e2 : Abs.frz H 5 (.sl b l.length) = .im 1 .any (errsS o l l.length) := by
        rw [frz_sl rb hbl, heb, frz_same 4 (fit_errs 0 o l _)]
      refine unforce3 (x := Abs.frz H 5 (.sl a l.length)) (y := Abs.frz H 5 (.sl b l.length)) (z := i64 0) (R := Res _) ?_
      rw [e1, e2]
      exact Res.eq (by simp [fitA, fitL]) rfl
theorem play_nil {o : Obj} (ho : o.Wf) (h : objOk o = true) : Pure Try.prog 21 [o.av, .im 2 .any (([] : List StepV).map StepV.av)] (fun r => r = .tup [.sc (.slice none 0 0), .sc (.slice none 0 0), i64 0]) := by
  refine Go.pure Try.func21 nm21 low21 res21 nt21 rfl ?_
  repeat' (first
    | ((with_reducible refine Go.red ?_); conv => whnf)
    | (with_reducible refine Go.and ?_ ?_)
    | (with_reducible exact True.intro)
    | (with_reducible refine Go.far ?_)
    | ((with_reducible refine Apt.mk ?_); (try dsimp only); omega)
    | ((with_reducible refine Ask.mk ?_); first | exact aAsk | exact aAsk2)
    | ((with_reducible refine Go.ari64 ?_ ?_ ?_); (· exact aBnd); (· exact aBnd))
    | ((with_reducible refine Go.ariu8 ?_ ?_ ?_); (· exact aBnd); (· exact aBnd))
    | (with_reducible refine Go.ari0 ?_)
    | (apply Go.elem; (· exact aElem))
    | (apply Go.row; (· exact aRow))
    | (apply Go.gives; (· exact aGives))
    | (apply Go.gives; (· exact aRes))
    | (with_reducible refine Go.unroll ?_)
    | (refine Go.gt rfl ?_)
    | (refine Go.gf rfl ?_)
    | (with_reducible refine Go.join ?_)
    | (refine Go.lt' rfl ?_)
    | (refine Go.lf' rfl ?_)
    | ((with_reducible refine Go.bool ?_ ?_) <;> intro hc <;> (try simp only [List.length_map, ne_eq, hcs] at hc) <;> try (exfalso; omega))
    | ((with_reducible refine Res.eq ?_ ?_); (· exact aFit)))
  refine Go.callN (new_ok ho (objOk_ok h) h) ?_
  rintro _ H2 n2 ⟨L, rfl, hM, h1, h2, h3⟩
  repeat' (first
    | ((with_reducible refine Go.red ?_); conv => whnf)
    | (with_reducible refine Go.and ?_ ?_)
    | (with_reducible exact True.intro)
    | (with_reducible refine Go.far ?_)
    | ((with_reducible refine Apt.mk ?_); (try dsimp only); omega)
    | ((with_reducible refine Ask.mk ?_); first | exact aAsk | exact aAsk2)
    | ((with_reducible refine Go.ari64 ?_ ?_ ?_); (· exact aBnd); (· exact aBnd))
    | ((with_reducible refine Go.ariu8 ?_ ?_ ?_); (· exact aBnd); (· exact aBnd))
    | (with_reducible refine Go.ari0 ?_)
    | (apply Go.elem; (· exact aElem))
    | (apply Go.row; (· exact aRow))
    | (apply Go.gives; (· exact aGives))
    | (apply Go.gives; (· exact aRes))
    | (with_reducible refine Go.unroll ?_)
    | (refine Go.gt rfl ?_)
    | (refine Go.gf rfl ?_)
    | (with_reducible refine Go.join ?_)
    | (refine Go.lt' rfl ?_)
    | (refine Go.lf' rfl ?_)
    | ((with_reducible refine Go.bool ?_ ?_) <;> intro hc <;> (try simp only [List.length_map, ne_eq, hcs] at hc) <;> try (exfalso; omega))
    | ((with_reducible refine Res.eq ?_ ?_); (· exact aFit)))
  refine Go.head ?_
  repeat' (first
    | ((with_reducible refine Go.red ?_); conv => whnf)
    | (with_reducible refine Go.and ?_ ?_)
    | (with_reducible exact True.intro)
    | (with_reducible refine Go.far ?_)
    | ((with_reducible refine Apt.mk ?_); (try dsimp only); omega)
    | ((with_reducible refine Ask.mk ?_); first | exact aAsk | exact aAsk2)
    | ((with_reducible refine Go.ari64 ?_ ?_ ?_); (· exact aBnd); (· exact aBnd))
    | ((with_reducible refine Go.ariu8 ?_ ?_ ?_); (· exact aBnd); (· exact aBnd))
    | (with_reducible refine Go.ari0 ?_)
    | (apply Go.elem; (· exact aElem))
    | (apply Go.row; (· exact aRow))
    | (apply Go.gives; (· exact aGives))
    | (apply Go.gives; (· exact aRes))
    | (with_reducible refine Go.unroll ?_)
    | (refine Go.gt rfl ?_)
    | (refine Go.gf rfl ?_)
    | (with_reducible refine Go.join ?_)
    | (refine Go.lt' rfl ?_)
    | (refine Go.lf' rfl ?_)
    | ((with_reducible refine Go.bool ?_ ?_) <;> intro hc <;> (try simp only [List.length_map, ne_eq, hcs] at hc) <;> try (exfalso; omega))
    | ((with_reducible refine Res.eq ?_ ?_); (· exact aFit)))
  exact rfl
end Go.Proofs.Ytliabecchkolgaa
