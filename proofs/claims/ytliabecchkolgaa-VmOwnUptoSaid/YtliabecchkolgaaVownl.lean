/- Views, words and lists are their asker's own; the object is kept in no part. -/
import Derived.Test.YtliabecchkolgaaVown
import Derived.Test.YtliabecchkolgaaVrdy
import Derived.Test.YtliabecchkolgaaVa
import Derived.Test.YtliabecchkolgaaVplay
namespace Go.Proofs.Ytliabecchkolgaa
open Go Go.Abs Go.Proofs
set_option linter.unusedSimpArgs false
set_option linter.unusedVariables false
theorem alike_own {o : Obj} {s : Mach} {A B : Lay} {H : Hp} {n m : Nat} (hA : MAt o s A H n) (hB : MAt o s B H m) (h : Lookable s) {nx : Nat} {K : AV → Hp → Nat → Prop} (hK : Go (K (bl true) H nx)) : CallW Try.prog 29 [.pt A.m 1 0 0, .pt B.m 1 0 0] H nx K :=
  Go.view (alike_fr o s h) (by rw [List.map_cons, List.map_cons, List.map_nil, hA.frz, hB.frz]) (by simp [fitL, fit_frozen]) trivial hK
set_option maxRecDepth 100000 in
theorem own_bad {o : Obj} (ho : o.Wf) (h : objOk o = false) (l : List StepV) : Pure Try.prog 9 [o.av, .im 2 .any (l.map StepV.av)] (fun r => r = bl true) := by
  refine Go.pure Try.func9 nm9 low9 res9 nt9 rfl ?_
  repeat' (first
    | ((with_reducible refine Go.red ?_); conv => whnf)
    | (with_reducible refine Go.and ?_ ?_)
    | (with_reducible exact True.intro)
    | (with_reducible refine Go.far ?_)
    | ((with_reducible refine Apt.mk ?_); (try dsimp only); omega)
    | ((with_reducible refine Ask.mk ?_); first | exact aAsk | exact aAsk2)
    | ((with_reducible refine Go.ari64 ?_ ?_ ?_); (· exact aBnd); (· exact aBnd))
    | ((with_reducible refine Go.ariu8 ?_ ?_ ?_); (· exact aBnd); (· exact aBnd))
    | (with_reducible refine Go.ari0 ?_)
    | (apply Go.elem; (· exact aElem))
    | (apply Go.row; (· exact aRow))
    | (apply Go.gives; (· exact aGives))
    | (apply Go.gives; (· exact aRes))
    | (with_reducible refine Go.unroll ?_)
    | ((with_reducible refine Go.callW (begins_pure) ?_ ?_); (· exact aFit))
    | ((with_reducible refine Go.callJ (fun _ => begins_pure) ?_ ?_); (· exact aFit))
    | ((with_reducible refine Go.callE (begins_pure) ?_ ?_); (· exact aFit))
    | ((with_reducible refine Go.callF (fun _ => begins_pure) ?_ ?_); (· exact aFit))
    | (refine Go.gt rfl ?_)
    | (refine Go.gf rfl ?_)
    | (with_reducible refine Go.join ?_)
    | (refine Go.lt' rfl ?_)
    | (refine Go.lf' rfl ?_)
    | ((with_reducible refine Go.bool ?_ ?_) <;> intro hc <;> (try simp only [List.length_map, ne_eq, hcs] at hc) <;> try (exfalso; omega))
    | ((with_reducible refine Res.eq ?_ ?_); (· exact aFit)))
  refine Go.callN (ocopy_call o ho) ?_
  rintro _ H1 n1 hcop
  obtain ⟨mb, v, rfl, hR, hn1, hf1⟩ := hcop.rows
  clear hcop
  have e0 : getH H1 0 = some (.row 25 5 .any [o.av]) := (hf1 0 (by omega)).trans rfl
  have hn4 : 4 ≤ n1 := by omega
  clear hf1 hn1
  have hcv := hR.cores
  rcases hcv with ⟨hnil, rfl⟩ | ⟨cb, B, dcb, es, rfl, hc0, hcb, hcm, rcb, hes, hB, hcB, hmB⟩
  all_goals
    repeat' (first
        | ((with_reducible refine Go.red ?_); conv => whnf)
        | (with_reducible refine Go.and ?_ ?_)
        | (with_reducible exact True.intro)
        | (with_reducible refine Go.far ?_)
        | ((with_reducible refine Apt.mk ?_); (try dsimp only); omega)
        | ((with_reducible refine Ask.mk ?_); first | exact aAsk | exact aAsk2)
        | ((with_reducible refine Go.ari64 ?_ ?_ ?_); (· exact aBnd); (· exact aBnd))
        | ((with_reducible refine Go.ariu8 ?_ ?_ ?_); (· exact aBnd); (· exact aBnd))
        | (with_reducible refine Go.ari0 ?_)
        | (apply Go.elem; (· exact aElem))
        | (apply Go.row; (· exact aRow))
        | (apply Go.gives; (· exact aGives))
        | (apply Go.gives; (· exact aRes))
        | (with_reducible refine Go.unroll ?_)
        | (refine Go.gt rfl ?_)
        | (refine Go.gf rfl ?_)
        | (with_reducible refine Go.join ?_)
        | (refine Go.lt' rfl ?_)
        | (refine Go.lf' rfl ?_)
        | ((with_reducible refine Go.bool ?_ ?_) <;> intro hc <;> (try simp only [List.length_map, ne_eq, hcs] at hc) <;> try (exfalso; omega))
        | ((with_reducible refine Res.eq ?_ ?_); (· exact aFit)))
    refine Go.callN (made_rows_bad ho h (hR.keep aKeep aNx)) ?_
    rintro _ H2 n2 ⟨rfl, hn2, hf2⟩
    have e1 : getH H2 0 = some (.row 25 5 .any [o.av]) := (hf2 0 aNx).trans aRow
    have hn5 : 4 ≤ n2 := Nat.le_trans aNx hn2
    clear hf2 hn2
    repeat' (first
        | ((with_reducible refine Go.red ?_); conv => whnf)
        | (with_reducible refine Go.and ?_ ?_)
        | (with_reducible exact True.intro)
        | (with_reducible refine Go.far ?_)
        | ((with_reducible refine Apt.mk ?_); (try dsimp only); omega)
        | ((with_reducible refine Ask.mk ?_); first | exact aAsk | exact aAsk2)
        | ((with_reducible refine Go.ari64 ?_ ?_ ?_); (· exact aBnd); (· exact aBnd))
        | ((with_reducible refine Go.ariu8 ?_ ?_ ?_); (· exact aBnd); (· exact aBnd))
        | (with_reducible refine Go.ari0 ?_)
        | (apply Go.elem; (· exact aElem))
        | (apply Go.row; (· exact aRow))
        | (apply Go.gives; (· exact aGives))
        | (apply Go.gives; (· exact aRes))
        | (with_reducible refine Go.unroll ?_)
        | (refine Go.gt rfl ?_)
        | (refine Go.gf rfl ?_)
        | (with_reducible refine Go.join ?_)
        | (refine Go.lt' rfl ?_)
        | (refine Go.lf' rfl ?_)
        | ((with_reducible refine Go.bool ?_ ?_) <;> intro hc <;> (try simp only [List.length_map, ne_eq, hcs] at hc) <;> try (exfalso; omega))
        | ((with_reducible refine Res.eq ?_ ?_); (· exact aFit)))
    refine Go.callN (made_bad ho h) ?_
    rintro _ H3 n3 ⟨rfl, hn3, hf3⟩
    repeat' (first
        | ((with_reducible refine Go.red ?_); conv => whnf)
        | (with_reducible refine Go.and ?_ ?_)
        | (with_reducible exact True.intro)
        | (with_reducible refine Go.far ?_)
        | ((with_reducible refine Apt.mk ?_); (try dsimp only); omega)
        | ((with_reducible refine Ask.mk ?_); first | exact aAsk | exact aAsk2)
        | ((with_reducible refine Go.ari64 ?_ ?_ ?_); (· exact aBnd); (· exact aBnd))
        | ((with_reducible refine Go.ariu8 ?_ ?_ ?_); (· exact aBnd); (· exact aBnd))
        | (with_reducible refine Go.ari0 ?_)
        | (apply Go.elem; (· exact aElem))
        | (apply Go.row; (· exact aRow))
        | (apply Go.gives; (· exact aGives))
        | (apply Go.gives; (· exact aRes))
        | (with_reducible refine Go.unroll ?_)
        | (refine Go.gt rfl ?_)
        | (refine Go.gf rfl ?_)
        | (with_reducible refine Go.join ?_)
        | (refine Go.lt' rfl ?_)
        | (refine Go.lf' rfl ?_)
        | ((with_reducible refine Go.bool ?_ ?_) <;> intro hc <;> (try simp only [List.length_map, ne_eq, hcs] at hc) <;> try (exfalso; omega))
        | ((with_reducible refine Res.eq ?_ ?_); (· exact aFit)))
    exact rfl
/-- Each is a struct. -/
def Aggs (es : List AV) : Prop := ∀ j d, j < es.length → ∃ cs, es.getD j d = .agg cs
theorem Aggs.code (l : List Instr) : Aggs (l.map Instr.av) := fun j d hj => ⟨_, getD_av _ _ _ _ (by simpa using hj)⟩
theorem Aggs.put {es : List AV} (h : Aggs es) (k : Nat) (cs : List AV) : Aggs (es.set k (.agg cs)) := by
  intro j d hj
  rw [List.length_set] at hj
  by_cases hjk : j = k
  · subst hjk; exact ⟨cs, by simp [List.getD, hj]⟩
  · obtain ⟨c, hc⟩ := h j d hj
    exact ⟨c, by simpa [List.getD, List.getElem?_set, Ne.symm hjk] using hc⟩
/-- What was handed in, whatever stands in it. -/
structure GAt (o : Obj) (mb : Nat) (v : AV) (H : Hp) (N : Nat) : Prop where
  mlt : mb < N
  mem : ∃ d w, getH H mb = some (.row 2 1 d (List.map i64 w)) ∧ w.length = o.mem.length
  cores : (o.cores = [] ∧ v = .sc (.slice none 0 0)) ∨ ∃ cb B d es, v = .sl cb o.cores.length ∧ 0 < o.cores.length ∧ cb < N ∧ cb ≠ mb ∧ getH H cb = some (.row 81 2 d es) ∧ es = List.zipWith coreRow o.cores B ∧ B.length = o.cores.length ∧ (∀ j, j < o.cores.length → B.getD j 0 < N ∧ ∃ d es, getH H (B.getD j 0) = some (.row 85 9 d es) ∧ es.length = (o.core j).code.length ∧ Aggs es) ∧ cb ∉ B ∧ mb ∉ B
theorem ORows.given {o : Obj} {mb : Nat} {v : AV} {H : Hp} {nx : Nat} (h : ORows o mb v H nx) : GAt o mb v H nx := by
  obtain ⟨h1, ⟨d, h2⟩, h3⟩ := h
  refine ⟨h1, ⟨d, _, h2, rfl⟩, ?_⟩
  rcases h3 with h3 | ⟨cb, B, d, es, g1, g2, g3, g4, g5, g6, g7, g8, g9⟩
  · exact .inl h3
  · exact .inr ⟨cb, B, d, es, g1, g2, g3, g4, g5, g6, g7.len, fun j hj => by obtain ⟨k1, k2, d, k3⟩ := g7.new j hj; exact ⟨k2, d, _, k3, by simp, Aggs.code _⟩, g8, g9⟩
theorem GAt.keep {o : Obj} {mb : Nat} {v : AV} {H H' : Hp} {N : Nat} (h : GAt o mb v H N) (hf : ∀ b, b < N → getH H' b = getH H b) : GAt o mb v H' N := by
  obtain ⟨h1, ⟨d, es, h2, h2b⟩, h3⟩ := h
  refine ⟨h1, ⟨d, es, (hf _ h1).trans h2, h2b⟩, ?_⟩
  rcases h3 with h3 | ⟨cb, B, d, es, g1, g2, g3, g4, g5, g6, g7, gb, g8, g9⟩
  · exact .inl h3
  · exact .inr ⟨cb, B, d, es, g1, g2, g3, g4, (hf _ g3).trans g5, g6, g7, fun j hj => by obtain ⟨k2, d, es, k3, k4, k5⟩ := gb j hj; exact ⟨k2, d, es, (hf _ k2).trans k3, k4, k5⟩, g8, g9⟩
theorem st_own {x : List AV} {o : Obj} {mb : Nat} {v : AV} (h : one v = true) : stE true 5 (.agg x) (rowsAv o mb v) 5 0 = some (rowsAv o mb v) := by
  have ha : allOne [.sl mb o.mem.length, i64 o.shared, i64 o.locks, i64 o.buffer, v] = true := by simp only [allOne, h, Bool.and_true]; rfl
  simp [stE, ha]
theorem ORows.one {o : Obj} {mb : Nat} {v : AV} {H : Hp} {nx : Nat} (h : ORows o mb v H nx) : Abs.one v = true := by
  rcases h.cores with ⟨_, rfl⟩ | ⟨cb, B, d, es, rfl, _⟩ <;> rfl
theorem GAt.code {o : Obj} {mb : Nat} {v : AV} {H H' : Hp} {N : Nat} (h : GAt o mb v H N) (hf : ∀ b, b < N → (∃ d es es', getH H b = some (.row 85 9 d es) ∧ getH H' b = some (.row 85 9 d es') ∧ es'.length = es.length ∧ Aggs es') ∨ getH H' b = getH H b) : GAt o mb v H' N := by
  have kp : ∀ b e sz d es, b < N → e ≠ 85 → getH H b = some (.row e sz d es) → getH H' b = some (.row e sz d es) := by
    intro b e sz d es hb he hr
    rcases hf b hb with ⟨d1, e1, e2, g1, _⟩ | g
    · rw [hr] at g1; simp only [Option.some.injEq, Blk.row.injEq] at g1; exact absurd g1.1 he
    · rw [g]; exact hr
  obtain ⟨h1, ⟨d, es, h2, h2b⟩, h3⟩ := h
  refine ⟨h1, ⟨d, es, kp _ _ _ _ _ h1 (by decide) h2, h2b⟩, ?_⟩
  rcases h3 with h3 | ⟨cb, B, d, es, g1, g2, g3, g4, g5, g6, g7, gb, g8, g9⟩
  · exact .inl h3
  · refine .inr ⟨cb, B, d, es, g1, g2, g3, g4, kp _ _ _ _ _ g3 (by decide) g5, g6, g7, fun j hj => ?_, g8, g9⟩
    obtain ⟨k2, d, es, k3, k4, k5⟩ := gb j hj
    rcases hf _ k2 with ⟨d1, e1, e2, m1, m2, m3, m4⟩ | m
    · rw [k3] at m1; simp only [Option.some.injEq, Blk.row.injEq] at m1
      obtain ⟨_, _, rfl, rfl⟩ := m1
      exact ⟨k2, _, e2, m2, m3.trans k4, m4⟩
    · exact ⟨k2, d, es, m.trans k3, k4, k5⟩
/-- The lists that were asked for, whatever stands in them now. -/
def Lists (o : Obj) (l : List StepV) (i n6 : Nat) (A X : Lay) (H : Hp) (n : Nat) : Prop := n6 + 8 ≤ n ∧ MAt o (doesS o l i).1 A H n ∧ MAt o (doesS o l i).1 X H n ∧ (∃ d w, getH H (n6 + 1) = some (.row 2 1 d (List.map i64 w)) ∧ w.length = (doesS o l i).1.mem.length) ∧
  (∃ d p, getH H (n6 + 4) = some (.row 75 2 d (List.map PrintS.av p)) ∧ p.length = (doesS o l i).1.prints.length) ∧ ∃ d r, getH H (n6 + 7) = some (.row 46 2 d (List.map StepV.av r)) ∧ r.length = (readyN o (doesS o l i).1 (doesS o l i).1.cores.length).length
set_option maxHeartbeats 20000000 in
set_option maxRecDepth 200000 in
theorem own_ok {o : Obj} (ho : o.Wf) (h : objOk o = true) (l : List StepV) (hl : l.length * 24 + 48 ≤ 140737488355328) : Pure Try.prog 9 [o.av, .im 2 .any (l.map StepV.av)] (fun r => r = bl true) := by
  refine Go.pure Try.func9 nm9 low9 res9 nt9 rfl ?_
  repeat' (first
    | ((with_reducible refine Go.red ?_); conv => whnf)
    | (with_reducible refine Go.and ?_ ?_)
    | (with_reducible exact True.intro)
    | (with_reducible refine Go.far ?_)
    | ((with_reducible refine Apt.mk ?_); (try dsimp only); omega)
    | ((with_reducible refine Ask.mk ?_); first | exact aAsk | exact aAsk2)
    | ((with_reducible refine Go.ari64 ?_ ?_ ?_); (· exact aBnd); (· exact aBnd))
    | ((with_reducible refine Go.ariu8 ?_ ?_ ?_); (· exact aBnd); (· exact aBnd))
    | (with_reducible refine Go.ari0 ?_)
    | (apply Go.elem; (· exact aElem))
    | (apply Go.row; (· exact aRow))
    | (apply Go.gives; (· exact aGives))
    | (apply Go.gives; (· exact aRes))
    | (with_reducible refine Go.unroll ?_)
    | ((with_reducible refine Go.callW (begins_pure) ?_ ?_); (· exact aFit))
    | ((with_reducible refine Go.callJ (fun _ => begins_pure) ?_ ?_); (· exact aFit))
    | ((with_reducible refine Go.callE (begins_pure) ?_ ?_); (· exact aFit))
    | ((with_reducible refine Go.callF (fun _ => begins_pure) ?_ ?_); (· exact aFit))
    | (refine Go.gt rfl ?_)
    | (refine Go.gf rfl ?_)
    | (with_reducible refine Go.join ?_)
    | (refine Go.lt' rfl ?_)
    | (refine Go.lf' rfl ?_)
    | ((with_reducible refine Go.bool ?_ ?_) <;> intro hc <;> (try simp only [List.length_map, ne_eq, hcs] at hc) <;> try (exfalso; omega))
    | ((with_reducible refine Res.eq ?_ ?_); (· exact aFit)))
  have ok := objOk_ok h
  refine Go.callN (ocopy_call o ho) ?_
  rintro _ H1 n1 hcop
  obtain ⟨mb, v, rfl, hR, hn1, hf1⟩ := hcop.rows
  clear hcop
  have e0 : getH H1 0 = some (.row 25 5 .any [o.av]) := (hf1 0 (by omega)).trans rfl
  have hn4 : 4 ≤ n1 := by omega
  clear hf1 hn1
  have hone := hR.one
  have hG := hR.given
  repeat' (first
      | ((with_reducible refine Go.red ?_); conv => whnf)
      | (with_reducible refine Go.and ?_ ?_)
      | (with_reducible exact True.intro)
      | (with_reducible refine Go.far ?_)
      | ((with_reducible refine Apt.mk ?_); (try dsimp only); omega)
      | ((with_reducible refine Ask.mk ?_); first | exact aAsk | exact aAsk2)
      | ((with_reducible refine Go.ari64 ?_ ?_ ?_); (· exact aBnd); (· exact aBnd))
      | ((with_reducible refine Go.ariu8 ?_ ?_ ?_); (· exact aBnd); (· exact aBnd))
      | (with_reducible refine Go.ari0 ?_)
      | (apply Go.elem; (· exact aElem))
      | (apply Go.row; (· exact aRow))
      | (apply Go.gives; (· exact aGives))
      | (apply Go.gives; (· exact st_own hone))
      | (apply Go.gives; (· exact aRes))
      | (with_reducible refine Go.unroll ?_)
      | (refine Go.gt rfl ?_)
      | (refine Go.gf rfl ?_)
      | (with_reducible refine Go.join ?_)
      | (refine Go.lt' rfl ?_)
      | (refine Go.lf' rfl ?_)
      | ((with_reducible refine Go.bool ?_ ?_) <;> intro hc <;> (try simp only [List.length_map, ne_eq, hcs] at hc) <;> try (exfalso; omega))
      | ((with_reducible refine Res.eq ?_ ?_); (· exact aFit)))
  refine Go.callN (made_rows ho h (hR.keep aKeep aNx)) ?_
  rintro _ H2 n2 ⟨A, rfl, hA, hn2, hA0, hf2⟩
  have hn5 : n1 + 3 ≤ n2 := Nat.le_trans aNx hn2
  have hA1 : ∀ b, b ∈ A.ids → n1 + 3 ≤ b := fun b hb => Nat.le_trans aNx (hA0 b hb)
  have e1 : getH H2 0 = some (.row 25 5 .any [o.av]) := (hf2 0 aNx).trans aRow
  have e5 : ∃ d, getH H2 n1 = some (.row 25 5 d [rowsAv o mb v]) := ⟨_, (hf2 n1 aNx).trans aRow⟩
  obtain ⟨d5, e5⟩ := e5
  have hG2 : GAt o mb v H2 n1 := hG.keep (fun b hb => (hf2 b aNx).trans aSkip)
  clear hf2 hn2 hA0 hG hR e0
  repeat' (first
      | ((with_reducible refine Go.red ?_); conv => whnf)
      | (with_reducible refine Go.and ?_ ?_)
      | (with_reducible exact True.intro)
      | (with_reducible refine Go.far ?_)
      | ((with_reducible refine Apt.mk ?_); (try dsimp only); omega)
      | ((with_reducible refine Ask.mk ?_); first | exact aAsk | exact aAsk2)
      | ((with_reducible refine Go.ari64 ?_ ?_ ?_); (· exact aBnd); (· exact aBnd))
      | ((with_reducible refine Go.ariu8 ?_ ?_ ?_); (· exact aBnd); (· exact aBnd))
      | (with_reducible refine Go.ari0 ?_)
      | (apply Go.elem; (· exact aElem))
      | (apply Go.row; (· exact aRow))
      | (apply Go.gives; (· exact aGives))
      | (apply Go.gives; (· exact aRes))
      | (with_reducible refine Go.unroll ?_)
      | (refine Go.gt rfl ?_)
      | (refine Go.gf rfl ?_)
      | (with_reducible refine Go.join ?_)
      | (refine Go.lt' rfl ?_)
      | (refine Go.lf' rfl ?_)
      | ((with_reducible refine Go.bool ?_ ?_) <;> intro hc <;> (try simp only [List.length_map, ne_eq, hcs] at hc) <;> try (exfalso; omega))
      | ((with_reducible refine Res.eq ?_ ?_); (· exact aFit)))
  refine Go.callN (made_ok ho h) ?_
  rintro _ H3 n3 ⟨X, rfl, hX, hn3, hX0, hf3⟩
  have hn6 : n2 ≤ n3 := Nat.le_trans aNx hn3
  have hX1 : ∀ b, b ∈ X.ids → n2 ≤ b := fun b hb => Nat.le_trans aNx (hX0 b hb)
  have e5 : getH H3 n1 = some (.row 25 5 d5 [rowsAv o mb v]) := (hf3 n1 aNx).trans aRow
  have hG3 : GAt o mb v H3 n1 := hG2.keep (fun b hb => (hf3 b aNx).trans aSkip)
  have hA3 : MAt o (initM o) A H3 n3 := hA.keep (fun x hx => (hf3 x aNx).trans aSkip) hn6
  have far : Far A X := fun x hx hm => by have h1 := hA.lt x hx; have h2 := hX1 x hm; omega
  have hX2 : ∀ b, b ∈ X.ids → n1 + 3 ≤ b := fun b hb => by have := hX1 b hb; omega
  clear hf3 hn3 hX0 hG2 hA hX1 e1
  repeat' (first
      | ((with_reducible refine Go.red ?_); conv => whnf)
      | (with_reducible refine Go.and ?_ ?_)
      | (with_reducible exact True.intro)
      | (with_reducible refine Go.far ?_)
      | ((with_reducible refine Apt.mk ?_); (try dsimp only); omega)
      | ((with_reducible refine Ask.mk ?_); first | exact aAsk | exact aAsk2)
      | ((with_reducible refine Go.ari64 ?_ ?_ ?_); (· exact aBnd); (· exact aBnd))
      | ((with_reducible refine Go.ariu8 ?_ ?_ ?_); (· exact aBnd); (· exact aBnd))
      | (with_reducible refine Go.ari0 ?_)
      | (apply Go.elem; (· exact aElem))
      | (apply Go.row; (· exact aRow))
      | (apply Go.gives; (· exact aGives))
      | (apply Go.gives; (· exact aRes))
      | (with_reducible refine Go.unroll ?_)
      | (refine Go.gt rfl ?_)
      | (refine Go.gf rfl ?_)
      | (with_reducible refine Go.join ?_)
      | (refine Go.lt' rfl ?_)
      | (refine Go.lf' rfl ?_)
      | ((with_reducible refine Go.bool ?_ ?_) <;> intro hc <;> (try simp only [List.length_map, ne_eq, hcs] at hc) <;> try (exfalso; omega))
      | ((with_reducible refine Res.eq ?_ ?_); (· exact aFit)))
  refine Go.loop (fun i : Nat => [(1, .im 2 .any (l.map StepV.av)), (5, .pt n1 1 0 0), (6, .pt A.m 1 0 0), (8, .pt X.m 1 0 0), (10, i64 i)]) (fun i H n => i ≤ o.cores.length ∧ n1 + 3 ≤ n ∧ (∃ d, getH H n1 = some (.row 25 5 d [rowsAv o mb v])) ∧ GAt o mb v H n1 ∧ MAt o (initM o) A H n ∧ MAt o (initM o) X H n) (fun i => o.cores.length - i) 0 aLess ⟨Nat.zero_le _, by omega, ⟨_, aRow⟩, hG3.keep aKeep, hA3.keep aKeep aNx, hX.keep aKeep aNx⟩ ?_
  rintro i H n ⟨hi, hn, ⟨d5, r5⟩, hG, hA, hX⟩
  clear hG3 hA3 e5
  by_cases hil : i < o.cores.length
  · obtain ⟨hmlt, _, ⟨hz, _⟩ | ⟨cb, B, dcb, es, rfl, hc0, hcb, hcm, rcb, hes, hBl, hB, hcB, hmB⟩⟩ := id hG
    · rw [hz] at hil; exact absurd hil (by simp)
    have GG := hG
    have hcd := codelen ho i hil
    have hoc8 := ok.cores
    have hcd2 : (o.cores.getD i default).code.length * 64 ≤ 140737488351232 := hcd
    have hat := czip_at hBl hil
    rw [← hes] at hat
    have hesl : es.length = o.cores.length := by rw [hes]; simp [hBl]
    clear hG
    repeat' (first
        | ((with_reducible refine Go.red ?_); conv => whnf)
        | (with_reducible refine Go.and ?_ ?_)
        | (with_reducible exact True.intro)
        | (with_reducible refine Go.far ?_)
        | ((with_reducible refine Apt.mk ?_); (try dsimp only); omega)
        | ((with_reducible refine Ask.mk ?_); first | exact aAsk | exact aAsk2)
        | ((with_reducible refine Go.ari64 ?_ ?_ ?_); (· exact aBnd); (· exact aBnd))
        | ((with_reducible refine Go.ariu8 ?_ ?_ ?_); (· exact aBnd); (· exact aBnd))
        | (with_reducible refine Go.ari0 ?_)
        | (apply Go.elem; (· (first | exact hat _ | exact aElem)))
        | (apply Go.row; (· exact aRow))
        | (apply Go.gives; (· exact aGives))
        | (apply Go.gives; (· exact aRes))
        | (with_reducible refine Go.unroll ?_)
        | (refine Go.gt rfl ?_)
        | (refine Go.gf rfl ?_)
        | (with_reducible refine Go.join ?_)
        | (refine Go.lt' rfl ?_)
        | (refine Go.lf' rfl ?_)
        | ((with_reducible refine Go.bool ?_ ?_) <;> intro hc <;> (try simp only [List.length_map, ne_eq, hcs] at hc) <;> try (exfalso; omega))
        | ((with_reducible refine Res.eq ?_ ?_); (· exact aFit)))
    refine Go.loop (fun k : Nat => [(1, .im 2 .any (l.map StepV.av)), (5, .pt n1 1 0 0), (6, .pt A.m 1 0 0), (8, .pt X.m 1 0 0), (10, i64 i), (11, i64 k)]) (fun k H n => k ≤ (o.core i).code.length ∧ n1 + 3 ≤ n ∧ (∃ d, getH H n1 = some (.row 25 5 d [rowsAv o mb (.sl cb o.cores.length)])) ∧ GAt o mb (.sl cb o.cores.length) H n1 ∧ MAt o (initM o) A H n ∧ MAt o (initM o) X H n ∧ (∃ d, getH H cb = some (.row 81 2 d es)) ∧ ∃ d es2, getH H (B.getD i 0) = some (.row 85 9 d es2) ∧ es2.length = (o.core i).code.length ∧ Aggs es2) (fun k => (o.core i).code.length - k) 0 aLess ⟨Nat.zero_le _, aNx, ⟨_, aRow⟩, GG.keep aKeep, hA.keep aKeep aNx, hX.keep aKeep aNx, ⟨_, aRow⟩, ?_⟩ ?_
    · obtain ⟨g1, d, es2, g2, g3, g4⟩ := hB i hil
      exact ⟨d, es2, (aSkip : _ = getH H _).trans g2, g3, g4⟩
    have hbi := (hB i hil).1
    have hcbi : B.getD i 0 ≠ cb := fun he => hcB (he ▸ getD_mem (by rw [hBl]; exact hil))
    rintro k H n ⟨hk, hn, ⟨d5, r5⟩, hG, hA, hX, ⟨dcb, rcb⟩, dbi, es2, rbi, hl2, hag⟩
    by_cases hkl : k < (o.core i).code.length
    · have hkl2 : k < (o.cores.getD i default).code.length := hkl
      obtain ⟨cs, hag9⟩ := hag k dbi (by omega)
      repeat' (first
          | ((with_reducible refine Go.red ?_); conv => whnf)
          | (with_reducible refine Go.and ?_ ?_)
          | (with_reducible exact True.intro)
          | (with_reducible refine Go.far ?_)
          | ((with_reducible refine Apt.mk ?_); (try dsimp only); omega)
          | ((with_reducible refine Ask.mk ?_); first | exact aAsk | exact aAsk2)
          | ((with_reducible refine Go.ari64 ?_ ?_ ?_); (· exact aBnd); (· exact aBnd))
          | ((with_reducible refine Go.ariu8 ?_ ?_ ?_); (· exact aBnd); (· exact aBnd))
          | (with_reducible refine Go.ari0 ?_)
          | (apply Go.elem; (· (first | exact hat _ | exact hag9 | exact aElem)))
          | (apply Go.row; (· exact aRow))
          | (apply Go.gives; (· exact aGives))
          | (apply Go.gives; (· exact aRes))
          | (with_reducible refine Go.unroll ?_)
          | (refine Go.gt rfl ?_)
          | (refine Go.gf rfl ?_)
          | (with_reducible refine Go.join ?_)
          | (refine Go.lt' rfl ?_)
          | (refine Go.lf' rfl ?_)
          | ((with_reducible refine Go.bool ?_ ?_) <;> intro hc <;> (try simp only [List.length_map, ne_eq, hcs] at hc) <;> try (exfalso; omega))
          | ((with_reducible refine Res.eq ?_ ?_); (· exact aFit)))
      refine ⟨k + 1, by show (o.core i).code.length - (k + 1) < (o.core i).code.length - k; omega, aLess, by show k + 1 ≤ (o.core i).code.length; omega, aNx, ⟨_, aRow⟩, hG.code (fun b hb => ?_), hA.keepIds (fun x hx => by have := hA1 x hx; exact aSkip) aNx, hX.keepIds (fun x hx => by have := hX2 x hx; exact aSkip) aNx, ⟨_, aRow⟩, _, _, aRow, by rw [List.length_set]; exact hl2, hag.put _ _⟩
      by_cases hbb : b = B.getD i 0
      · subst hbb; exact .inl ⟨_, _, _, rbi, aRow, by rw [List.length_set], hag.put _ _⟩
      · exact .inr aSkip
    · repeat' (first
          | ((with_reducible refine Go.red ?_); conv => whnf)
          | (with_reducible refine Go.and ?_ ?_)
          | (with_reducible exact True.intro)
          | (with_reducible refine Go.far ?_)
          | ((with_reducible refine Apt.mk ?_); (try dsimp only); omega)
          | ((with_reducible refine Ask.mk ?_); first | exact aAsk | exact aAsk2)
          | ((with_reducible refine Go.ari64 ?_ ?_ ?_); (· exact aBnd); (· exact aBnd))
          | ((with_reducible refine Go.ariu8 ?_ ?_ ?_); (· exact aBnd); (· exact aBnd))
          | (with_reducible refine Go.ari0 ?_)
          | (apply Go.elem; (· (first | exact hat _ | exact aElem)))
          | (apply Go.row; (· exact aRow))
          | (apply Go.gives; (· exact aGives))
          | (apply Go.gives; (· exact aRes))
          | (with_reducible refine Go.unroll ?_)
          | (refine Go.gt rfl ?_)
          | (refine Go.gf rfl ?_)
          | (with_reducible refine Go.join ?_)
          | (refine Go.lt' rfl ?_)
          | (refine Go.lf' rfl ?_)
          | ((with_reducible refine Go.bool ?_ ?_) <;> intro hc <;> (try simp only [List.length_map, ne_eq, hcs] at hc) <;> try (exfalso; omega))
          | ((with_reducible refine Res.eq ?_ ?_); (· exact aFit)))
      refine ⟨i + 1, by omega, aLess, by omega, aNx, ⟨_, aRow⟩, hG.keep aKeep, hA.keep aKeep aNx, hX.keep aKeep aNx⟩
  · obtain ⟨hmlt, ⟨dm2, w2, hm2, hw2⟩, hcv⟩ := id hG
    have r5b := r5
    have hom := ok.mem
    rcases hcv with ⟨hz, hv⟩ | ⟨cb, B, dcb, es, hv, hc0, hcb, hcm, rcb, hes, hBl, hB, hcB, hmB⟩
    all_goals rw [hv] at r5
    all_goals (try have hz0 : o.cores.length = 0 := by rw [hz]; rfl)
    all_goals (try have hesl : es.length = o.cores.length := by rw [hes]; simp [hBl])
    all_goals
      repeat' (first
          | ((with_reducible refine Go.red ?_); conv => whnf)
          | (with_reducible refine Go.and ?_ ?_)
          | (with_reducible exact True.intro)
          | (with_reducible refine Go.far ?_)
          | ((with_reducible refine Apt.mk ?_); (try dsimp only); omega)
          | ((with_reducible refine Ask.mk ?_); first | exact aAsk | exact aAsk2)
          | ((with_reducible refine Go.ari64 ?_ ?_ ?_); (· exact aBnd); (· exact aBnd))
          | ((with_reducible refine Go.ariu8 ?_ ?_ ?_); (· exact aBnd); (· exact aBnd))
          | (with_reducible refine Go.ari0 ?_)
          | (apply Go.elem; (· exact aElem))
          | (apply Go.row; (· exact aRow))
          | (apply Go.gives; (· exact aGives))
          | (apply Go.gives; (· exact aRes))
          | (with_reducible refine Go.unroll ?_)
          | (refine Go.gt rfl ?_)
          | (refine Go.gf rfl ?_)
          | (with_reducible refine Go.join ?_)
          | (refine Go.lt' rfl ?_)
          | (refine Go.lf' rfl ?_)
          | ((with_reducible refine Go.bool ?_ ?_) <;> intro hc <;> (try simp only [List.length_map, ne_eq, hcs] at hc) <;> try (exfalso; omega))
          | ((with_reducible refine Res.eq ?_ ?_); (· exact aFit)))
      (try clear rcb hesl hes hB hcB hmB hBl)
      refine Go.loop (fun i : Nat => [(1, .im 2 .any (l.map StepV.av)), (5, .pt n1 1 0 0), (6, .pt A.m 1 0 0), (8, .pt X.m 1 0 0), (12, i64 i)]) (fun i H n => i ≤ o.mem.length ∧ n1 + 3 ≤ n ∧ (∃ d w, getH H n1 = some (.row 25 5 d [rowsAv o mb w])) ∧ (∃ d w, getH H mb = some (.row 2 1 d (List.map i64 w)) ∧ w.length = o.mem.length) ∧ MAt o (initM o) A H n ∧ MAt o (initM o) X H n) (fun i => o.mem.length - i) 0 aLess ⟨Nat.zero_le _, aNx, ⟨_, _, aRow⟩, ⟨_, _, aRow, hw2⟩, hA.keep aKeep aNx, hX.keep aKeep aNx⟩ ?_
      clear hm2 hw2 hA hX r5 r5b hG
      rintro j H n ⟨hj, hn, ⟨d5, w5, r5⟩, ⟨dm2, w2, hm2, hw2⟩, hA, hX⟩
      by_cases hjl : j < o.mem.length
      · repeat' (first
            | ((with_reducible refine Go.red ?_); conv => whnf)
            | (with_reducible refine Go.and ?_ ?_)
            | (with_reducible exact True.intro)
            | (with_reducible refine Go.far ?_)
            | ((with_reducible refine Apt.mk ?_); (try dsimp only); omega)
            | ((with_reducible refine Ask.mk ?_); first | exact aAsk | exact aAsk2)
            | ((with_reducible refine Go.ari64 ?_ ?_ ?_); (· exact aBnd); (· exact aBnd))
            | ((with_reducible refine Go.ariu8 ?_ ?_ ?_); (· exact aBnd); (· exact aBnd))
            | (with_reducible refine Go.ari0 ?_)
            | (apply Go.elem; (· exact aElem))
            | (apply Go.row; (· exact aRow))
            | (apply Go.gives; (· exact aGives))
            | (apply Go.gives; (· exact aRes))
            | (with_reducible refine Go.unroll ?_)
            | (refine Go.gt rfl ?_)
            | (refine Go.gf rfl ?_)
            | (with_reducible refine Go.join ?_)
            | (refine Go.lt' rfl ?_)
            | (refine Go.lf' rfl ?_)
            | ((with_reducible refine Go.bool ?_ ?_) <;> intro hc <;> (try simp only [List.length_map, ne_eq, hcs] at hc) <;> try (exfalso; omega))
            | ((with_reducible refine Res.eq ?_ ?_); (· exact aFit)))
        refine ⟨j + 1, by omega, aLess, by omega, aNx, ⟨_, _, aRow⟩, ⟨_, w2.set j 99, (by rw [List.map_set]; exact aRow), by rw [List.length_set]; exact hw2⟩, hA.keepIds (fun x hx => by have := hA1 x hx; exact aSkip) aNx, hX.keepIds (fun x hx => by have := hX2 x hx; exact aSkip) aNx⟩
      repeat' (first
          | ((with_reducible refine Go.red ?_); conv => whnf)
          | (with_reducible refine Go.and ?_ ?_)
          | (with_reducible exact True.intro)
          | (with_reducible refine Go.far ?_)
          | ((with_reducible refine Apt.mk ?_); (try dsimp only); omega)
          | ((with_reducible refine Ask.mk ?_); first | exact aAsk | exact aAsk2)
          | ((with_reducible refine Go.ari64 ?_ ?_ ?_); (· exact aBnd); (· exact aBnd))
          | ((with_reducible refine Go.ariu8 ?_ ?_ ?_); (· exact aBnd); (· exact aBnd))
          | (with_reducible refine Go.ari0 ?_)
          | (apply Go.elem; (· exact aElem))
          | (apply Go.row; (· exact aRow))
          | (apply Go.gives; (· exact aGives))
          | (apply Go.gives; (· exact aRes))
          | (with_reducible refine Go.unroll ?_)
          | (refine Go.gt rfl ?_)
          | (refine Go.gf rfl ?_)
          | (with_reducible refine Go.join ?_)
          | (refine Go.lt' rfl ?_)
          | (refine Go.lf' rfl ?_)
          | ((with_reducible refine Go.bool ?_ ?_) <;> intro hc <;> (try simp only [List.length_map, ne_eq, hcs] at hc) <;> try (exfalso; omega))
          | ((with_reducible refine Res.eq ?_ ?_); (· exact aFit)))
      refine Go.loop (fun i : Nat => [(1, .im 2 .any (l.map StepV.av)), (6, .pt A.m 1 0 0), (8, .pt X.m 1 0 0), (13, i64 i)]) (fun i H n => i ≤ l.length ∧ ∃ A1 X1, A1.m = A.m ∧ X1.m = X.m ∧ MAt o (atS o l i) A1 H n ∧ MAt o (atS o l i) X1 H n ∧ Far A1 X1) (fun i => l.length - i) 0 aLess ⟨Nat.zero_le _, A, X, rfl, rfl, hA.keep aKeep aNx, hX.keep aKeep aNx, far⟩ ?_
      clear hm2 hw2 hA hX r5 hA1 hX2 far
      rintro i H n ⟨hi, A1, X1, mA, mX, hA, hX, far⟩
      rw [← mA, ← mX]
      have hg := atS_good ok l i hi
      by_cases hil : i < l.length
      · repeat' (first
            | ((with_reducible refine Go.red ?_); conv => whnf)
            | (with_reducible refine Go.and ?_ ?_)
            | (with_reducible exact True.intro)
            | (with_reducible refine Go.far ?_)
            | ((with_reducible refine Apt.mk ?_); (try dsimp only); omega)
            | ((with_reducible refine Ask.mk ?_); first | exact aAsk | exact aAsk2)
            | ((with_reducible refine Go.ari64 ?_ ?_ ?_); (· exact aBnd); (· exact aBnd))
            | ((with_reducible refine Go.ariu8 ?_ ?_ ?_); (· exact aBnd); (· exact aBnd))
            | (with_reducible refine Go.ari0 ?_)
            | (apply Go.elem; (· (first | exact getD_av _ _ _ _ hil | exact aElem)))
            | (apply Go.row; (· exact aRow))
            | (apply Go.gives; (· exact aGives))
            | (apply Go.gives; (· exact aRes))
            | (with_reducible refine Go.unroll ?_)
            | (refine Go.gt rfl ?_)
            | (refine Go.gf rfl ?_)
            | (with_reducible refine Go.join ?_)
            | (refine Go.lt' rfl ?_)
            | (refine Go.lf' rfl ?_)
            | ((with_reducible refine Go.bool ?_ ?_) <;> intro hc <;> (try simp only [List.length_map, ne_eq, hcs] at hc) <;> try (exfalso; omega))
            | ((with_reducible refine Res.eq ?_ ?_); (· exact aFit)))
        refine Go.callN (step_call (hA.keep aKeep aNx) hg.1 ok (by omega) (l.getD i default).kind (l.getD i default).core) ?_
        rintro _ H5 n5 ⟨rfl, hn5, ⟨A2, hA2, hmv⟩, hfr⟩
        have q5 : n ≤ n5 := Nat.le_trans aNx hn5
        have fr5 : ∀ x, x < n → x ∉ A1.ids → getH H5 x = getH H x := fun x hx hxo => (hfr x aNx hxo).trans aSkip
        have id5 : ∀ x, x ∈ A2.ids → x ∈ A1.ids ∨ n ≤ x := fun x hx => (hmv.ids x hx).imp id (fun hh => Nat.le_trans aNx hh)
        have hX2 := hX.beside far fr5 q5
        have k1 : Far A2 X1 := far.moves id5 hX.lt
        have m5 := hmv.m
        clear hfr hmv hn5 fr5 id5 hA hX far
        repeat' (first
            | ((with_reducible refine Go.red ?_); conv => whnf)
            | (with_reducible refine Go.and ?_ ?_)
            | (with_reducible exact True.intro)
            | (with_reducible refine Go.far ?_)
            | ((with_reducible refine Apt.mk ?_); (try dsimp only); omega)
            | ((with_reducible refine Ask.mk ?_); first | exact aAsk | exact aAsk2)
            | ((with_reducible refine Go.ari64 ?_ ?_ ?_); (· exact aBnd); (· exact aBnd))
            | ((with_reducible refine Go.ariu8 ?_ ?_ ?_); (· exact aBnd); (· exact aBnd))
            | (with_reducible refine Go.ari0 ?_)
            | (apply Go.elem; (· (first | exact getD_av _ _ _ _ hil | exact aElem)))
            | (apply Go.row; (· exact aRow))
            | (apply Go.gives; (· exact aGives))
            | (apply Go.gives; (· exact aRes))
            | (with_reducible refine Go.unroll ?_)
            | (refine Go.gt rfl ?_)
            | (refine Go.gf rfl ?_)
            | (with_reducible refine Go.join ?_)
            | (refine Go.lt' rfl ?_)
            | (refine Go.lf' rfl ?_)
            | ((with_reducible refine Go.bool ?_ ?_) <;> intro hc <;> (try simp only [List.length_map, ne_eq, hcs] at hc) <;> try (exfalso; omega))
            | ((with_reducible refine Res.eq ?_ ?_); (· exact aFit)))
        refine Go.callN (step_call (hX2.keep aKeep aNx) hg.1 ok (by omega) (l.getD i default).kind (l.getD i default).core) ?_
        rintro _ H6 n6 ⟨rfl, hn6, ⟨X2, hX3, hmv⟩, hfr⟩
        have q6 : n5 ≤ n6 := Nat.le_trans aNx hn6
        have fr6 : ∀ x, x < n5 → x ∉ X1.ids → getH H6 x = getH H5 x := fun x hx hxo => (hfr x aNx hxo).trans aSkip
        have id6 : ∀ x, x ∈ X2.ids → x ∈ X1.ids ∨ n5 ≤ x := fun x hx => (hmv.ids x hx).imp id (fun hh => Nat.le_trans aNx hh)
        have hA3 := hA2.beside k1.symm fr6 q6
        have k3 : Far A2 X2 := (k1.symm.moves id6 hA2.lt).symm
        have m6 := hmv.m
        clear hfr hmv hn6 fr6 id6 hA2 hX2 k1
        rw [← m5, ← m6]
        have hg2 : Good o (doesS o l i).1 := hg.1.step ok _ _
        have hp2 : (doesS o l i).1.prints.length ≤ (atS o l i).prints.length + 1 := prints_step _ _ _ _
        have hA4 : MAt o (doesS o l i).1 A2 H6 n6 := hA3
        have hX4 : MAt o (doesS o l i).1 X2 H6 n6 := hX3
        clear hA3 hX3
        have hdm : (doesS o l i).1.mem.length ≤ 4096 := by rw [hg2.mem]; exact ok.mem
        have hdc : (doesS o l i).1.cores.length ≤ 8 := by rw [hg2.n]; exact ok.cores
        repeat' (first
            | ((with_reducible refine Go.red ?_); conv => whnf)
            | (with_reducible refine Go.and ?_ ?_)
            | (with_reducible exact True.intro)
            | (with_reducible refine Go.far ?_)
            | ((with_reducible refine Apt.mk ?_); (try dsimp only); omega)
            | ((with_reducible refine Ask.mk ?_); first | exact aAsk | exact aAsk2)
            | ((with_reducible refine Go.ari64 ?_ ?_ ?_); (· exact aBnd); (· exact aBnd))
            | ((with_reducible refine Go.ariu8 ?_ ?_ ?_); (· exact aBnd); (· exact aBnd))
            | (with_reducible refine Go.ari0 ?_)
            | (apply Go.elem; (· exact aElem))
            | (apply Go.row; (· exact aRow))
            | (apply Go.gives; (· exact aGives))
            | (apply Go.gives; (· exact aRes))
            | (with_reducible refine Go.unroll ?_)
            | (refine Go.gt rfl ?_)
            | (refine Go.gf rfl ?_)
            | (with_reducible refine Go.join ?_)
            | (refine Go.lt' rfl ?_)
            | (refine Go.lf' rfl ?_)
            | ((with_reducible refine Go.bool ?_ ?_) <;> intro hc <;> (try simp only [List.length_map, ne_eq, hcs] at hc) <;> try (exfalso; omega))
            | ((with_reducible refine Res.eq ?_ ?_); (· exact aFit)))
        refine Go.callN (memory_rows (hA4.keep aKeep aNx) hdm) ?_
        rintro _ _ _ ⟨rfl, rfl, rfl⟩
        repeat' (first
            | ((with_reducible refine Go.red ?_); conv => whnf)
            | (with_reducible refine Go.and ?_ ?_)
            | (with_reducible exact True.intro)
            | (with_reducible refine Go.far ?_)
            | ((with_reducible refine Apt.mk ?_); (try dsimp only); omega)
            | ((with_reducible refine Ask.mk ?_); first | exact aAsk | exact aAsk2)
            | ((with_reducible refine Go.ari64 ?_ ?_ ?_); (· exact aBnd); (· exact aBnd))
            | ((with_reducible refine Go.ariu8 ?_ ?_ ?_); (· exact aBnd); (· exact aBnd))
            | (with_reducible refine Go.ari0 ?_)
            | (apply Go.elem; (· exact aElem))
            | (apply Go.row; (· exact aRow))
            | (apply Go.gives; (· exact aGives))
            | (apply Go.gives; (· exact aRes))
            | (with_reducible refine Go.unroll ?_)
            | (refine Go.gt rfl ?_)
            | (refine Go.gf rfl ?_)
            | (with_reducible refine Go.join ?_)
            | (refine Go.lt' rfl ?_)
            | (refine Go.lf' rfl ?_)
            | ((with_reducible refine Go.bool ?_ ?_) <;> intro hc <;> (try simp only [List.length_map, ne_eq, hcs] at hc) <;> try (exfalso; omega))
            | ((with_reducible refine Res.eq ?_ ?_); (· exact aFit)))
        refine Go.callN (prints_rows (hA4.keep aKeep aNx) (by omega)) ?_
        rintro _ _ _ ⟨rfl, rfl, rfl⟩
        repeat' (first
            | ((with_reducible refine Go.red ?_); conv => whnf)
            | (with_reducible refine Go.and ?_ ?_)
            | (with_reducible exact True.intro)
            | (with_reducible refine Go.far ?_)
            | ((with_reducible refine Apt.mk ?_); (try dsimp only); omega)
            | ((with_reducible refine Ask.mk ?_); first | exact aAsk | exact aAsk2)
            | ((with_reducible refine Go.ari64 ?_ ?_ ?_); (· exact aBnd); (· exact aBnd))
            | ((with_reducible refine Go.ariu8 ?_ ?_ ?_); (· exact aBnd); (· exact aBnd))
            | (with_reducible refine Go.ari0 ?_)
            | (apply Go.elem; (· exact aElem))
            | (apply Go.row; (· exact aRow))
            | (apply Go.gives; (· exact aGives))
            | (apply Go.gives; (· exact aRes))
            | (with_reducible refine Go.unroll ?_)
            | (refine Go.gt rfl ?_)
            | (refine Go.gf rfl ?_)
            | (with_reducible refine Go.join ?_)
            | (refine Go.lt' rfl ?_)
            | (refine Go.lf' rfl ?_)
            | ((with_reducible refine Go.bool ?_ ?_) <;> intro hc <;> (try simp only [List.length_map, ne_eq, hcs] at hc) <;> try (exfalso; omega))
            | ((with_reducible refine Res.eq ?_ ?_); (· exact aFit)))
        refine Go.callN (ready_call (hA4.keep aKeep aNx) hg2 hdc) ?_
        rintro _ _ _ ⟨rfl, rfl, rfl⟩
        repeat' (first
            | ((with_reducible refine Go.red ?_); conv => whnf)
            | (with_reducible refine Go.and ?_ ?_)
            | (with_reducible exact True.intro)
            | (with_reducible refine Go.far ?_)
            | ((with_reducible refine Apt.mk ?_); (try dsimp only); omega)
            | ((with_reducible refine Ask.mk ?_); first | exact aAsk | exact aAsk2)
            | ((with_reducible refine Go.ari64 ?_ ?_ ?_); (· exact aBnd); (· exact aBnd))
            | ((with_reducible refine Go.ariu8 ?_ ?_ ?_); (· exact aBnd); (· exact aBnd))
            | (with_reducible refine Go.ari0 ?_)
            | (apply Go.elem; (· exact aElem))
            | (apply Go.row; (· exact aRow))
            | (apply Go.gives; (· exact aGives))
            | (apply Go.gives; (· exact aRes))
            | (with_reducible refine Go.unroll ?_)
            | (refine Go.gt rfl ?_)
            | (refine Go.gf rfl ?_)
            | (with_reducible refine Go.join ?_)
            | (refine Go.lt' rfl ?_)
            | (refine Go.lf' rfl ?_)
            | ((with_reducible refine Go.bool ?_ ?_) <;> intro hc <;> (try simp only [List.length_map, ne_eq, hcs] at hc) <;> try (exfalso; omega))
            | ((with_reducible refine Res.eq ?_ ?_); (· exact aFit)))
        have hAl := hA4.lt
        have hXl := hX4.lt
        refine Go.loop (fun k : Nat => [(1, .im 2 .any (l.map StepV.av)), (6, .pt A2.m 1 0 0), (8, .pt X2.m 1 0 0), (13, i64 i), (14, .sl (n6 + 1) (List.map i64 (doesS o l i).1.mem).length), (15, .sl (n6 + 4) (List.map PrintS.av (doesS o l i).1.prints).length), (16, .sl (n6 + 7) (List.map StepV.av (readyN o (doesS o l i).1 (doesS o l i).1.cores.length)).length), (17, i64 k)]) (fun k H n => k ≤ (doesS o l i).1.mem.length ∧ Lists o l i n6 A2 X2 H n) (fun k => (doesS o l i).1.mem.length - k) 0 aLess ⟨Nat.zero_le _, aNx, hA4.keep aKeep aNx, hX4.keep aKeep aNx, ⟨_, _, aRow, rfl⟩, ⟨_, _, aRow, rfl⟩, ⟨_, _, aRow, rfl⟩⟩ ?_
        clear hA4 hX4
        rintro k H n ⟨hk, hn7, hA, hX, ⟨dw, w, rw7, hw⟩, ⟨dp, p, rp7, hp⟩, ⟨dr, r, rr7, hr⟩⟩
        by_cases hkl : k < (doesS o l i).1.mem.length
        · repeat' (first
              | ((with_reducible refine Go.red ?_); conv => whnf)
              | (with_reducible refine Go.and ?_ ?_)
              | (with_reducible exact True.intro)
              | (with_reducible refine Go.far ?_)
              | ((with_reducible refine Apt.mk ?_); (try dsimp only); omega)
              | ((with_reducible refine Ask.mk ?_); first | exact aAsk | exact aAsk2)
              | ((with_reducible refine Go.ari64 ?_ ?_ ?_); (· exact aBnd); (· exact aBnd))
              | ((with_reducible refine Go.ariu8 ?_ ?_ ?_); (· exact aBnd); (· exact aBnd))
              | (with_reducible refine Go.ari0 ?_)
              | (apply Go.elem; (· exact aElem))
              | (apply Go.row; (· exact aRow))
              | (apply Go.gives; (· exact aGives))
              | (apply Go.gives; (· exact aRes))
              | (with_reducible refine Go.unroll ?_)
              | (refine Go.gt rfl ?_)
              | (refine Go.gf rfl ?_)
              | (with_reducible refine Go.join ?_)
              | (refine Go.lt' rfl ?_)
              | (refine Go.lf' rfl ?_)
              | ((with_reducible refine Go.bool ?_ ?_) <;> intro hc <;> (try simp only [List.length_map, ne_eq, hcs] at hc) <;> try (exfalso; omega))
              | ((with_reducible refine Res.eq ?_ ?_); (· exact aFit)))
          exact ⟨k + 1, by omega, aLess, by omega, aNx, hA.keepIds (fun x hx => by have := hAl x hx; exact aSkip) aNx, hX.keepIds (fun x hx => by have := hXl x hx; exact aSkip) aNx, ⟨_, w.set k 77, (by rw [List.map_set]; exact aRow), by rw [List.length_set]; exact hw⟩, ⟨_, _, aRow, hp⟩, ⟨_, _, aRow, hr⟩⟩
        repeat' (first
            | ((with_reducible refine Go.red ?_); conv => whnf)
            | (with_reducible refine Go.and ?_ ?_)
            | (with_reducible exact True.intro)
            | (with_reducible refine Go.far ?_)
            | ((with_reducible refine Apt.mk ?_); (try dsimp only); omega)
            | ((with_reducible refine Ask.mk ?_); first | exact aAsk | exact aAsk2)
            | ((with_reducible refine Go.ari64 ?_ ?_ ?_); (· exact aBnd); (· exact aBnd))
            | ((with_reducible refine Go.ariu8 ?_ ?_ ?_); (· exact aBnd); (· exact aBnd))
            | (with_reducible refine Go.ari0 ?_)
            | (apply Go.elem; (· exact aElem))
            | (apply Go.row; (· exact aRow))
            | (apply Go.gives; (· exact aGives))
            | (apply Go.gives; (· exact aRes))
            | (with_reducible refine Go.unroll ?_)
            | (refine Go.gt rfl ?_)
            | (refine Go.gf rfl ?_)
            | (with_reducible refine Go.join ?_)
            | (refine Go.lt' rfl ?_)
            | (refine Go.lf' rfl ?_)
            | ((with_reducible refine Go.bool ?_ ?_) <;> intro hc <;> (try simp only [List.length_map, ne_eq, hcs] at hc) <;> try (exfalso; omega))
            | ((with_reducible refine Res.eq ?_ ?_); (· exact aFit)))
        refine Go.loop (fun k : Nat => [(1, .im 2 .any (l.map StepV.av)), (6, .pt A2.m 1 0 0), (8, .pt X2.m 1 0 0), (13, i64 i), (15, .sl (n6 + 4) (List.map PrintS.av (doesS o l i).1.prints).length), (16, .sl (n6 + 7) (List.map StepV.av (readyN o (doesS o l i).1 (doesS o l i).1.cores.length)).length), (18, i64 k)]) (fun k H n => k ≤ (doesS o l i).1.prints.length ∧ Lists o l i n6 A2 X2 H n) (fun k => (doesS o l i).1.prints.length - k) 0 aLess ⟨Nat.zero_le _, aNx, hA.keep aKeep aNx, hX.keep aKeep aNx, ⟨_, _, aRow, hw⟩, ⟨_, _, aRow, hp⟩, ⟨_, _, aRow, hr⟩⟩ ?_
        clear hA hX rw7 rp7 rr7 hw hp hr
        rintro k H n ⟨hk, hn7, hA, hX, ⟨dw, w, rw7, hw⟩, ⟨dp, p, rp7, hp⟩, ⟨dr, r, rr7, hr⟩⟩
        by_cases hkl : k < (doesS o l i).1.prints.length
        · repeat' (first
              | ((with_reducible refine Go.red ?_); conv => whnf)
              | (with_reducible refine Go.and ?_ ?_)
              | (with_reducible exact True.intro)
              | (with_reducible refine Go.far ?_)
              | ((with_reducible refine Apt.mk ?_); (try dsimp only); omega)
              | ((with_reducible refine Ask.mk ?_); first | exact aAsk | exact aAsk2)
              | ((with_reducible refine Go.ari64 ?_ ?_ ?_); (· exact aBnd); (· exact aBnd))
              | ((with_reducible refine Go.ariu8 ?_ ?_ ?_); (· exact aBnd); (· exact aBnd))
              | (with_reducible refine Go.ari0 ?_)
              | (apply Go.elem; (· exact aElem))
              | (apply Go.row; (· exact aRow))
              | (apply Go.gives; (· exact aGives))
              | (apply Go.gives; (· exact aRes))
              | (with_reducible refine Go.unroll ?_)
              | (refine Go.gt rfl ?_)
              | (refine Go.gf rfl ?_)
              | (with_reducible refine Go.join ?_)
              | (refine Go.lt' rfl ?_)
              | (refine Go.lf' rfl ?_)
              | ((with_reducible refine Go.bool ?_ ?_) <;> intro hc <;> (try simp only [List.length_map, ne_eq, hcs] at hc) <;> try (exfalso; omega))
              | ((with_reducible refine Res.eq ?_ ?_); (· exact aFit)))
          exact ⟨k + 1, by omega, aLess, by omega, aNx, hA.keepIds (fun x hx => by have := hAl x hx; exact aSkip) aNx, hX.keepIds (fun x hx => by have := hXl x hx; exact aSkip) aNx, ⟨_, _, aRow, hw⟩, ⟨_, p.set k ⟨9, 0⟩, (by rw [List.map_set]; exact aRow), by rw [List.length_set]; exact hp⟩, ⟨_, _, aRow, hr⟩⟩
        repeat' (first
            | ((with_reducible refine Go.red ?_); conv => whnf)
            | (with_reducible refine Go.and ?_ ?_)
            | (with_reducible exact True.intro)
            | (with_reducible refine Go.far ?_)
            | ((with_reducible refine Apt.mk ?_); (try dsimp only); omega)
            | ((with_reducible refine Ask.mk ?_); first | exact aAsk | exact aAsk2)
            | ((with_reducible refine Go.ari64 ?_ ?_ ?_); (· exact aBnd); (· exact aBnd))
            | ((with_reducible refine Go.ariu8 ?_ ?_ ?_); (· exact aBnd); (· exact aBnd))
            | (with_reducible refine Go.ari0 ?_)
            | (apply Go.elem; (· exact aElem))
            | (apply Go.row; (· exact aRow))
            | (apply Go.gives; (· exact aGives))
            | (apply Go.gives; (· exact aRes))
            | (with_reducible refine Go.unroll ?_)
            | (refine Go.gt rfl ?_)
            | (refine Go.gf rfl ?_)
            | (with_reducible refine Go.join ?_)
            | (refine Go.lt' rfl ?_)
            | (refine Go.lf' rfl ?_)
            | ((with_reducible refine Go.bool ?_ ?_) <;> intro hc <;> (try simp only [List.length_map, ne_eq, hcs] at hc) <;> try (exfalso; omega))
            | ((with_reducible refine Res.eq ?_ ?_); (· exact aFit)))
        have hrl := readyN_le o (doesS o l i).1 (doesS o l i).1.cores.length
        refine Go.loop (fun k : Nat => [(1, .im 2 .any (l.map StepV.av)), (6, .pt A2.m 1 0 0), (8, .pt X2.m 1 0 0), (13, i64 i), (15, .sl (n6 + 4) (List.map PrintS.av (doesS o l i).1.prints).length), (16, .sl (n6 + 7) (List.map StepV.av (readyN o (doesS o l i).1 (doesS o l i).1.cores.length)).length), (19, i64 k)]) (fun k H n => k ≤ (readyN o (doesS o l i).1 (doesS o l i).1.cores.length).length ∧ Lists o l i n6 A2 X2 H n) (fun k => (readyN o (doesS o l i).1 (doesS o l i).1.cores.length).length - k) 0 aLess ⟨Nat.zero_le _, aNx, hA.keep aKeep aNx, hX.keep aKeep aNx, ⟨_, _, aRow, hw⟩, ⟨_, _, aRow, hp⟩, ⟨_, _, aRow, hr⟩⟩ ?_
        clear hA hX rw7 rp7 rr7 hw hp hr
        rintro k H n ⟨hk, hn7, hA, hX, ⟨dw, w, rw7, hw⟩, ⟨dp, p, rp7, hp⟩, ⟨dr, r, rr7, hr⟩⟩
        by_cases hkl : k < (readyN o (doesS o l i).1 (doesS o l i).1.cores.length).length
        · repeat' (first
              | ((with_reducible refine Go.red ?_); conv => whnf)
              | (with_reducible refine Go.and ?_ ?_)
              | (with_reducible exact True.intro)
              | (with_reducible refine Go.far ?_)
              | ((with_reducible refine Apt.mk ?_); (try dsimp only); omega)
              | ((with_reducible refine Ask.mk ?_); first | exact aAsk | exact aAsk2)
              | ((with_reducible refine Go.ari64 ?_ ?_ ?_); (· exact aBnd); (· exact aBnd))
              | ((with_reducible refine Go.ariu8 ?_ ?_ ?_); (· exact aBnd); (· exact aBnd))
              | (with_reducible refine Go.ari0 ?_)
              | (apply Go.elem; (· exact aElem))
              | (apply Go.row; (· exact aRow))
              | (apply Go.gives; (· exact aGives))
              | (apply Go.gives; (· exact aRes))
              | (with_reducible refine Go.unroll ?_)
              | (refine Go.gt rfl ?_)
              | (refine Go.gf rfl ?_)
              | (with_reducible refine Go.join ?_)
              | (refine Go.lt' rfl ?_)
              | (refine Go.lf' rfl ?_)
              | ((with_reducible refine Go.bool ?_ ?_) <;> intro hc <;> (try simp only [List.length_map, ne_eq, hcs] at hc) <;> try (exfalso; omega))
              | ((with_reducible refine Res.eq ?_ ?_); (· exact aFit)))
          exact ⟨k + 1, by omega, aLess, by omega, aNx, hA.keepIds (fun x hx => by have := hAl x hx; exact aSkip) aNx, hX.keepIds (fun x hx => by have := hXl x hx; exact aSkip) aNx, ⟨_, _, aRow, hw⟩, ⟨_, _, aRow, hp⟩, ⟨_, r.set k ⟨0, 0⟩, (by rw [List.map_set]; exact aRow), by rw [List.length_set]; exact hr⟩⟩
        repeat' (first
            | ((with_reducible refine Go.red ?_); conv => whnf)
            | (with_reducible refine Go.and ?_ ?_)
            | (with_reducible exact True.intro)
            | (with_reducible refine Go.far ?_)
            | ((with_reducible refine Apt.mk ?_); (try dsimp only); omega)
            | ((with_reducible refine Ask.mk ?_); first | exact aAsk | exact aAsk2)
            | ((with_reducible refine Go.ari64 ?_ ?_ ?_); (· exact aBnd); (· exact aBnd))
            | ((with_reducible refine Go.ariu8 ?_ ?_ ?_); (· exact aBnd); (· exact aBnd))
            | (with_reducible refine Go.ari0 ?_)
            | (apply Go.elem; (· exact aElem))
            | (apply Go.row; (· exact aRow))
            | (apply Go.gives; (· exact aGives))
            | (apply Go.gives; (· exact aRes))
            | (with_reducible refine Go.unroll ?_)
            | (refine Go.gt rfl ?_)
            | (refine Go.gf rfl ?_)
            | (with_reducible refine Go.join ?_)
            | (refine Go.lt' rfl ?_)
            | (refine Go.lf' rfl ?_)
            | ((with_reducible refine Go.bool ?_ ?_) <;> intro hc <;> (try simp only [List.length_map, ne_eq, hcs] at hc) <;> try (exfalso; omega))
            | ((with_reducible refine Res.eq ?_ ?_); (· exact aFit)))
        by_cases hz : (doesS o l i).1.cores.length = 0
        · refine Go.callN (view_none (hA.keep aKeep aNx) 0 (by unfold out; omega)) ?_
          rintro _ H7 n7 ⟨rfl, hn8, hf7⟩
          have hn9 : n + 5 ≤ n7 := Nat.le_trans aNx hn8
          have hA7 : MAt o (doesS o l i).1 A2 H7 n7 := hA.keep (fun x hx => (hf7 x aNx).trans aSkip) (by omega)
          have hX7 : MAt o (doesS o l i).1 X2 H7 n7 := hX.keep (fun x hx => (hf7 x aNx).trans aSkip) (by omega)
          have rp8 : getH H7 (n6 + 4) = some (.row 75 2 dp (List.map PrintS.av p)) := (hf7 _ aNx).trans aRow
          clear hA hX rw7 rp7 rr7 hf7 hn8
          repeat' (first
              | ((with_reducible refine Go.red ?_); conv => whnf)
              | (with_reducible refine Go.and ?_ ?_)
              | (with_reducible exact True.intro)
              | (with_reducible refine Go.far ?_)
              | ((with_reducible refine Apt.mk ?_); (try dsimp only); omega)
              | ((with_reducible refine Ask.mk ?_); first | exact aAsk | exact aAsk2)
              | ((with_reducible refine Go.ari64 ?_ ?_ ?_); (· exact aBnd); (· exact aBnd))
              | ((with_reducible refine Go.ariu8 ?_ ?_ ?_); (· exact aBnd); (· exact aBnd))
              | (with_reducible refine Go.ari0 ?_)
              | (apply Go.elem; (· exact aElem))
              | (apply Go.row; (· exact aRow))
              | (apply Go.gives; (· exact aGives))
              | (apply Go.gives; (· exact aRes))
              | (with_reducible refine Go.unroll ?_)
              | (refine Go.gt rfl ?_)
              | (refine Go.gf rfl ?_)
              | (with_reducible refine Go.join ?_)
              | (refine Go.lt' rfl ?_)
              | (refine Go.lf' rfl ?_)
              | ((with_reducible refine Go.bool ?_ ?_) <;> intro hc <;> (try simp only [List.length_map, ne_eq, hcs] at hc) <;> try (exfalso; omega))
              | ((with_reducible refine Res.eq ?_ ?_); (· exact aFit)))
          refine Go.head ?_
          repeat' (first
              | ((with_reducible refine Go.red ?_); conv => whnf)
              | (with_reducible refine Go.and ?_ ?_)
              | (with_reducible exact True.intro)
              | (with_reducible refine Go.far ?_)
              | ((with_reducible refine Apt.mk ?_); (try dsimp only); omega)
              | ((with_reducible refine Ask.mk ?_); first | exact aAsk | exact aAsk2)
              | ((with_reducible refine Go.ari64 ?_ ?_ ?_); (· exact aBnd); (· exact aBnd))
              | ((with_reducible refine Go.ariu8 ?_ ?_ ?_); (· exact aBnd); (· exact aBnd))
              | (with_reducible refine Go.ari0 ?_)
              | (apply Go.elem; (· exact aElem))
              | (apply Go.row; (· exact aRow))
              | (apply Go.gives; (· exact aGives))
              | (apply Go.gives; (· exact aRes))
              | (with_reducible refine Go.unroll ?_)
              | (refine Go.gt rfl ?_)
              | (refine Go.gf rfl ?_)
              | (with_reducible refine Go.join ?_)
              | (refine Go.lt' rfl ?_)
              | (refine Go.lf' rfl ?_)
              | ((with_reducible refine Go.bool ?_ ?_) <;> intro hc <;> (try simp only [List.length_map, ne_eq, hcs] at hc) <;> try (exfalso; omega))
              | ((with_reducible refine Res.eq ?_ ?_); (· exact aFit)))
          · exact ⟨app_le (m := 2) rfl (by rw [List.length_map]; omega)⟩
          refine ⟨i + 1, by omega, aLess, by omega, A2, X2, rfl, rfl, ?_, ?_, k3⟩
          · rw [atS_next hil]
            exact hA7.keepIds (fun x hx => by have := hAl x hx; exact aSkip) aNx
          · rw [atS_next hil]
            exact hX7.keepIds (fun x hx => by have := hXl x hx; exact aSkip) aNx
        · refine Go.callN (view_in (hA.keep aKeep aNx) (q := 0) (by omega) (by have := hg2.buf 0 (by omega); have := ok.buffer; omega)) ?_
          rintro _ H7 n7 ⟨vb, dv, rfl, hv1, hv2, hn8, rv7, hf7⟩
          have hn9 : n + 5 ≤ n7 := Nat.le_trans aNx hn8
          have hA7 : MAt o (doesS o l i).1 A2 H7 n7 := hA.keep (fun x hx => (hf7 x aNx).trans aSkip) (by omega)
          have hX7 : MAt o (doesS o l i).1 X2 H7 n7 := hX.keep (fun x hx => (hf7 x aNx).trans aSkip) (by omega)
          have rp8 : getH H7 (n6 + 4) = some (.row 75 2 dp (List.map PrintS.av p)) := (hf7 _ aNx).trans aRow
          clear hA hX rw7 rp7 rr7 hf7 hn8
          repeat' (first
              | ((with_reducible refine Go.red ?_); conv => whnf)
              | (with_reducible refine Go.and ?_ ?_)
              | (with_reducible exact True.intro)
              | (with_reducible refine Go.far ?_)
              | ((with_reducible refine Apt.mk ?_); (try dsimp only); omega)
              | ((with_reducible refine Ask.mk ?_); first | exact aAsk | exact aAsk2)
              | ((with_reducible refine Go.ari64 ?_ ?_ ?_); (· exact aBnd); (· exact aBnd))
              | ((with_reducible refine Go.ariu8 ?_ ?_ ?_); (· exact aBnd); (· exact aBnd))
              | (with_reducible refine Go.ari0 ?_)
              | (apply Go.elem; (· exact aElem))
              | (apply Go.row; (· exact aRow))
              | (apply Go.gives; (· exact aGives))
              | (apply Go.gives; (· exact aRes))
              | (with_reducible refine Go.unroll ?_)
              | (refine Go.gt rfl ?_)
              | (refine Go.gf rfl ?_)
              | (with_reducible refine Go.join ?_)
              | (refine Go.lt' rfl ?_)
              | (refine Go.lf' rfl ?_)
              | ((with_reducible refine Go.bool ?_ ?_) <;> intro hc <;> (try simp only [List.length_map, ne_eq, hcs] at hc) <;> try (exfalso; omega))
              | ((with_reducible refine Res.eq ?_ ?_); (· exact aFit)))
          have hbl : ((doesS o l i).1.core 0).buf.length < 1000 := by have := hg2.buf 0 (by omega); have := ok.buffer; omega
          refine Go.loop (fun k : Nat => [(1, .im 2 .any (l.map StepV.av)), (6, .pt A2.m 1 0 0), (8, .pt X2.m 1 0 0), (13, i64 i), (15, .sl (n6 + 4) (List.map PrintS.av (doesS o l i).1.prints).length), (20, .pt (n7 + 3) 1 0 0), (22, i64 k)]) (fun k H n => k ≤ ((doesS o l i).1.core 0).buf.length ∧ n7 + 4 ≤ n ∧ MAt o (doesS o l i).1 A2 H n ∧ MAt o (doesS o l i).1 X2 H n ∧ (∃ d, getH H (n6 + 4) = some (.row 75 2 d (List.map PrintS.av p))) ∧ (∃ d, getH H (n7 + 3) = some (.row 55 19 d [((doesS o l i).1.core 0).av vb])) ∧ ∃ d bs, getH H vb = some (.row 51 3 d (List.map StoreS.av bs)) ∧ bs.length = ((doesS o l i).1.core 0).buf.length) (fun k => ((doesS o l i).1.core 0).buf.length - k) 0 aLess ⟨Nat.zero_le _, aNx, hA7.keep aKeep aNx, hX7.keep aKeep aNx, ⟨_, aRow⟩, ⟨_, aRow⟩, ⟨_, _, aRow, rfl⟩⟩ ?_
          clear hA7 hX7 rp8 rv7
          rintro k H n ⟨hk, hn9b, hA8, hX8, ⟨dp, rp8⟩, ⟨dv8, rv8⟩, ⟨db8, bs, rb8, hbs⟩⟩
          by_cases hkl : k < ((doesS o l i).1.core 0).buf.length
          · repeat' (first
                | ((with_reducible refine Go.red ?_); conv => whnf)
                | (with_reducible refine Go.and ?_ ?_)
                | (with_reducible exact True.intro)
                | (with_reducible refine Go.far ?_)
                | ((with_reducible refine Apt.mk ?_); (try dsimp only); omega)
                | ((with_reducible refine Ask.mk ?_); first | exact aAsk | exact aAsk2)
                | ((with_reducible refine Go.ari64 ?_ ?_ ?_); (· exact aBnd); (· exact aBnd))
                | ((with_reducible refine Go.ariu8 ?_ ?_ ?_); (· exact aBnd); (· exact aBnd))
                | (with_reducible refine Go.ari0 ?_)
                | (apply Go.elem; (· exact aElem))
                | (apply Go.row; (· exact aRow))
                | (apply Go.gives; (· exact aGives))
                | (apply Go.gives; (· exact aRes))
                | (with_reducible refine Go.unroll ?_)
                | (refine Go.gt rfl ?_)
                | (refine Go.gf rfl ?_)
                | (with_reducible refine Go.join ?_)
                | (refine Go.lt' rfl ?_)
                | (refine Go.lf' rfl ?_)
                | ((with_reducible refine Go.bool ?_ ?_) <;> intro hc <;> (try simp only [List.length_map, ne_eq, hcs] at hc) <;> try (exfalso; omega))
                | ((with_reducible refine Res.eq ?_ ?_); (· exact aFit)))
            exact ⟨k + 1, by omega, aLess, by omega, aNx, hA8.keepIds (fun x hx => by have := hAl x hx; exact aSkip) aNx, hX8.keepIds (fun x hx => by have := hXl x hx; exact aSkip) aNx, ⟨_, aRow⟩, ⟨_, aRow⟩, ⟨_, bs.set k ⟨0, 9, 0⟩, (by rw [List.map_set]; exact aRow), by rw [List.length_set]; exact hbs⟩⟩
          repeat' (first
              | ((with_reducible refine Go.red ?_); conv => whnf)
              | (with_reducible refine Go.and ?_ ?_)
              | (with_reducible exact True.intro)
              | (with_reducible refine Go.far ?_)
              | ((with_reducible refine Apt.mk ?_); (try dsimp only); omega)
              | ((with_reducible refine Ask.mk ?_); first | exact aAsk | exact aAsk2)
              | ((with_reducible refine Go.ari64 ?_ ?_ ?_); (· exact aBnd); (· exact aBnd))
              | ((with_reducible refine Go.ariu8 ?_ ?_ ?_); (· exact aBnd); (· exact aBnd))
              | (with_reducible refine Go.ari0 ?_)
              | (apply Go.elem; (· exact aElem))
              | (apply Go.row; (· exact aRow))
              | (apply Go.gives; (· exact aGives))
              | (apply Go.gives; (· exact aRes))
              | (with_reducible refine Go.unroll ?_)
              | (refine Go.gt rfl ?_)
              | (refine Go.gf rfl ?_)
              | (with_reducible refine Go.join ?_)
              | (refine Go.lt' rfl ?_)
              | (refine Go.lf' rfl ?_)
              | ((with_reducible refine Go.bool ?_ ?_) <;> intro hc <;> (try simp only [List.length_map, ne_eq, hcs] at hc) <;> try (exfalso; omega))
              | ((with_reducible refine Res.eq ?_ ?_); (· exact aFit)))
          · exact ⟨app_le (m := 2) rfl (by omega)⟩
          · exact ⟨app_le (m := 2) rfl (by rw [List.length_map]; omega)⟩
          refine ⟨i + 1, by omega, aLess, by omega, A2, X2, rfl, rfl, ?_, ?_, k3⟩
          · rw [atS_next hil]
            exact hA8.keepIds (fun x hx => by have := hAl x hx; exact aSkip) aNx
          · rw [atS_next hil]
            exact hX8.keepIds (fun x hx => by have := hXl x hx; exact aSkip) aNx
      · repeat' (first
            | ((with_reducible refine Go.red ?_); conv => whnf)
            | (with_reducible refine Go.and ?_ ?_)
            | (with_reducible exact True.intro)
            | (with_reducible refine Go.far ?_)
            | ((with_reducible refine Apt.mk ?_); (try dsimp only); omega)
            | ((with_reducible refine Ask.mk ?_); first | exact aAsk | exact aAsk2)
            | ((with_reducible refine Go.ari64 ?_ ?_ ?_); (· exact aBnd); (· exact aBnd))
            | ((with_reducible refine Go.ariu8 ?_ ?_ ?_); (· exact aBnd); (· exact aBnd))
            | (with_reducible refine Go.ari0 ?_)
            | (apply Go.elem; (· exact aElem))
            | (apply Go.row; (· exact aRow))
            | (apply Go.gives; (· exact aGives))
            | (apply Go.gives; (· exact aRes))
            | (with_reducible refine Go.unroll ?_)
            | (refine Go.gt rfl ?_)
            | (refine Go.gf rfl ?_)
            | (with_reducible refine Go.join ?_)
            | (refine Go.lt' rfl ?_)
            | (refine Go.lf' rfl ?_)
            | ((with_reducible refine Go.bool ?_ ?_) <;> intro hc <;> (try simp only [List.length_map, ne_eq, hcs] at hc) <;> try (exfalso; omega))
            | ((with_reducible refine Res.eq ?_ ?_); (· exact aFit)))
        refine alike_own (hA.keep aKeep (Nat.le_refl _)) (hX.keep aKeep (Nat.le_refl _)) (hg.1.lookable ok (by omega)) ?_
        repeat' (first
            | ((with_reducible refine Go.red ?_); conv => whnf)
            | (with_reducible refine Go.and ?_ ?_)
            | (with_reducible exact True.intro)
            | (with_reducible refine Go.far ?_)
            | ((with_reducible refine Apt.mk ?_); (try dsimp only); omega)
            | ((with_reducible refine Ask.mk ?_); first | exact aAsk | exact aAsk2)
            | ((with_reducible refine Go.ari64 ?_ ?_ ?_); (· exact aBnd); (· exact aBnd))
            | ((with_reducible refine Go.ariu8 ?_ ?_ ?_); (· exact aBnd); (· exact aBnd))
            | (with_reducible refine Go.ari0 ?_)
            | (apply Go.elem; (· exact aElem))
            | (apply Go.row; (· exact aRow))
            | (apply Go.gives; (· exact aGives))
            | (apply Go.gives; (· exact aRes))
            | (with_reducible refine Go.unroll ?_)
            | (refine Go.gt rfl ?_)
            | (refine Go.gf rfl ?_)
            | (with_reducible refine Go.join ?_)
            | (refine Go.lt' rfl ?_)
            | (refine Go.lf' rfl ?_)
            | ((with_reducible refine Go.bool ?_ ?_) <;> intro hc <;> (try simp only [List.length_map, ne_eq, hcs] at hc) <;> try (exfalso; omega))
            | ((with_reducible refine Res.eq ?_ ?_); (· exact aFit)))
        exact rfl
end Go.Proofs.Ytliabecchkolgaa
