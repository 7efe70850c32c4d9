/- A fork goes its own way. -/
import Derived.Test.YtliabecchkolgaaVfork
import Derived.Test.YtliabecchkolgaaVlook
import Derived.Test.YtliabecchkolgaaVa
namespace Go.Proofs.Ytliabecchkolgaa
open Go Go.Abs Go.Proofs
set_option linter.unusedSimpArgs false
set_option linter.unusedVariables false
/-- Two machines that share no row. -/
def Far (A B : Lay) : Prop := ∀ b ∈ A.ids, b ∉ B.ids
theorem Far.symm {A B : Lay} (h : Far A B) : Far B A := fun b hb hm => h b hm hb
theorem Far.moves {A A' B : Lay} {n : Nat} (h : Far A B) (hm : ∀ b, b ∈ A'.ids → b ∈ A.ids ∨ n ≤ b) (hl : ∀ b ∈ B.ids, b < n) : Far A' B := fun b hb hB => (hm b hb).elim (fun h1 => h b h1 hB) (fun h1 => by have := hl b hB; omega)
theorem MAt.beside {o : Obj} {s : Mach} {A B : Lay} {H H' : Hp} {n n' : Nat} (h : MAt o s B H n) (hf : Far A B) (hfr : ∀ b, b < n → b ∉ A.ids → getH H' b = getH H b) (hn : n ≤ n') : MAt o s B H' n' := h.keepIds (fun b hb => hfr b (h.lt b hb) (fun ha => hf b ha hb)) hn
theorem alike_call {o : Obj} {s : Mach} {A B : Lay} {H : Hp} {n m : Nat} (hA : MAt o s A H n) (hB : MAt o s B H m) (h : Lookable s) {nx : Nat} {K : AV → Hp → Nat → Prop} (hK : Go (K (bl true) H nx)) : CallW Try.prog 29 [.pt A.m 1 0 0, .pt B.m 1 0 0] H nx K :=
  Go.view (alike_fr o s h) (by rw [List.map_cons, List.map_cons, List.map_nil, hA.frz, hB.frz]) (by simp [fitL, fit_frozen]) trivial hK
set_option maxHeartbeats 20000000 in
set_option maxRecDepth 200000 in
theorem forks_pure {o : Obj} (ho : o.Wf) (h : objOk o = true) (l a b : List StepV) (hl : (l.length + a.length + b.length) * 16 + 48 ≤ 140737488355328) : Pure Try.prog 8 [o.av, .im 2 .any (l.map StepV.av), .im 2 .any (a.map StepV.av), .im 2 .any (b.map StepV.av)] (fun r => r = bl true) := by
  refine Go.pure Try.func8 nm8 low8 res8 nt8 rfl ?_
  repeat' (first
    | ((with_reducible refine Go.red ?_); conv => whnf)
    | (with_reducible refine Go.and ?_ ?_)
    | (with_reducible exact True.intro)
    | (with_reducible refine Go.far ?_)
    | ((with_reducible refine Apt.mk ?_); (try dsimp only); omega)
    | ((with_reducible refine Ask.mk ?_); first | exact aAsk | exact aAsk2)
    | ((with_reducible refine Go.ari64 ?_ ?_ ?_); (· exact aBnd); (· exact aBnd))
    | ((with_reducible refine Go.ariu8 ?_ ?_ ?_); (· exact aBnd); (· exact aBnd))
    | (with_reducible refine Go.ari0 ?_)
    | (apply Go.elem; (· exact aElem))
    | (apply Go.row; (· exact aRow))
    | (apply Go.gives; (· exact aGives))
    | (apply Go.gives; (· exact aRes))
    | (with_reducible refine Go.unroll ?_)
    | ((with_reducible refine Go.callW (begins_pure) ?_ ?_); (· exact aFit))
    | ((with_reducible refine Go.callJ (fun _ => begins_pure) ?_ ?_); (· exact aFit))
    | ((with_reducible refine Go.callE (begins_pure) ?_ ?_); (· exact aFit))
    | ((with_reducible refine Go.callF (fun _ => begins_pure) ?_ ?_); (· exact aFit))
    | (refine Go.gt rfl ?_)
    | (refine Go.gf rfl ?_)
    | (with_reducible refine Go.join ?_)
    | (refine Go.lt' rfl ?_)
    | (refine Go.lf' rfl ?_)
    | ((with_reducible refine Go.bool ?_ ?_) <;> intro hc <;> (try simp only [List.length_map, ne_eq, hcs] at hc) <;> try (exfalso; omega))
    | ((with_reducible refine Res.eq ?_ ?_); (· exact aFit)))
  have ok := objOk_ok h
  refine Go.callN (made_ok ho h) ?_
  rintro _ H2 n2 ⟨A, rfl, hA, a1, a2, a3⟩
  have e0 : getH H2 0 = some (.row 25 5 .any [o.av]) := (a3 0 (by omega)).trans rfl
  have hn2 : 4 ≤ n2 := by omega
  clear a3 a1
  repeat' (first
    | ((with_reducible refine Go.red ?_); conv => whnf)
    | (with_reducible refine Go.and ?_ ?_)
    | (with_reducible exact True.intro)
    | (with_reducible refine Go.far ?_)
    | ((with_reducible refine Apt.mk ?_); (try dsimp only); omega)
    | ((with_reducible refine Ask.mk ?_); first | exact aAsk | exact aAsk2)
    | ((with_reducible refine Go.ari64 ?_ ?_ ?_); (· exact aBnd); (· exact aBnd))
    | ((with_reducible refine Go.ariu8 ?_ ?_ ?_); (· exact aBnd); (· exact aBnd))
    | (with_reducible refine Go.ari0 ?_)
    | (apply Go.elem; (· exact aElem))
    | (apply Go.row; (· exact aRow))
    | (apply Go.gives; (· exact aGives))
    | (apply Go.gives; (· exact aRes))
    | (with_reducible refine Go.unroll ?_)
    | (refine Go.gt rfl ?_)
    | (refine Go.gf rfl ?_)
    | (with_reducible refine Go.join ?_)
    | (refine Go.lt' rfl ?_)
    | (refine Go.lf' rfl ?_)
    | ((with_reducible refine Go.bool ?_ ?_) <;> intro hc <;> (try simp only [List.length_map, ne_eq, hcs] at hc) <;> try (exfalso; omega))
    | ((with_reducible refine Res.eq ?_ ?_); (· exact aFit)))
  refine Go.callN (made_ok ho h) ?_
  rintro _ H3 n3 ⟨B, rfl, hB, b1, b2, b3⟩
  have hn3 : n2 ≤ n3 := Nat.le_trans aNx b1
  have e1 : getH H3 0 = some (.row 25 5 .any [o.av]) := (b3 0 aNx).trans aRow
  have hA2 : MAt o (initM o) A H3 n3 := hA.keep (fun x hx => (b3 x aNx).trans aSkip) hn3
  have fAB : Far A B := fun x hx hm => by have h1 := hA.lt x hx; have h2 := b2 x hm; have h3 : n2 ≤ x := Nat.le_trans aNx h2; omega
  clear b3 b1 hA e0
  repeat' (first
    | ((with_reducible refine Go.red ?_); conv => whnf)
    | (with_reducible refine Go.and ?_ ?_)
    | (with_reducible exact True.intro)
    | (with_reducible refine Go.far ?_)
    | ((with_reducible refine Apt.mk ?_); (try dsimp only); omega)
    | ((with_reducible refine Ask.mk ?_); first | exact aAsk | exact aAsk2)
    | ((with_reducible refine Go.ari64 ?_ ?_ ?_); (· exact aBnd); (· exact aBnd))
    | ((with_reducible refine Go.ariu8 ?_ ?_ ?_); (· exact aBnd); (· exact aBnd))
    | (with_reducible refine Go.ari0 ?_)
    | (apply Go.elem; (· exact aElem))
    | (apply Go.row; (· exact aRow))
    | (apply Go.gives; (· exact aGives))
    | (apply Go.gives; (· exact aRes))
    | (with_reducible refine Go.unroll ?_)
    | (refine Go.gt rfl ?_)
    | (refine Go.gf rfl ?_)
    | (with_reducible refine Go.join ?_)
    | (refine Go.lt' rfl ?_)
    | (refine Go.lf' rfl ?_)
    | ((with_reducible refine Go.bool ?_ ?_) <;> intro hc <;> (try simp only [List.length_map, ne_eq, hcs] at hc) <;> try (exfalso; omega))
    | ((with_reducible refine Res.eq ?_ ?_); (· exact aFit)))
  refine Go.callN (made_ok ho h) ?_
  rintro _ H4 n4 ⟨C, rfl, hC, c1, c2, c3⟩
  have hn4 : n3 ≤ n4 := Nat.le_trans aNx c1
  have hA3 : MAt o (initM o) A H4 n4 := hA2.keep (fun x hx => (c3 x aNx).trans aSkip) hn4
  have hB3 : MAt o (initM o) B H4 n4 := hB.keep (fun x hx => (c3 x aNx).trans aSkip) hn4
  have fAC : Far A C := fun x hx hm => by have h1 := hA2.lt x hx; have h2 := c2 x hm; have h3 : n3 ≤ x := Nat.le_trans aNx h2; omega
  have fBC : Far B C := fun x hx hm => by have h1 := hB.lt x hx; have h2 := c2 x hm; have h3 : n3 ≤ x := Nat.le_trans aNx h2; omega
  clear c3 c1 hA2 hB e1 a2 b2 c2
  repeat' (first
    | ((with_reducible refine Go.red ?_); conv => whnf)
    | (with_reducible refine Go.and ?_ ?_)
    | (with_reducible exact True.intro)
    | (with_reducible refine Go.far ?_)
    | ((with_reducible refine Apt.mk ?_); (try dsimp only); omega)
    | ((with_reducible refine Ask.mk ?_); first | exact aAsk | exact aAsk2)
    | ((with_reducible refine Go.ari64 ?_ ?_ ?_); (· exact aBnd); (· exact aBnd))
    | ((with_reducible refine Go.ariu8 ?_ ?_ ?_); (· exact aBnd); (· exact aBnd))
    | (with_reducible refine Go.ari0 ?_)
    | (apply Go.elem; (· exact aElem))
    | (apply Go.row; (· exact aRow))
    | (apply Go.gives; (· exact aGives))
    | (apply Go.gives; (· exact aRes))
    | (with_reducible refine Go.unroll ?_)
    | (refine Go.gt rfl ?_)
    | (refine Go.gf rfl ?_)
    | (with_reducible refine Go.join ?_)
    | (refine Go.lt' rfl ?_)
    | (refine Go.lf' rfl ?_)
    | ((with_reducible refine Go.bool ?_ ?_) <;> intro hc <;> (try simp only [List.length_map, ne_eq, hcs] at hc) <;> try (exfalso; omega))
    | ((with_reducible refine Res.eq ?_ ?_); (· exact aFit)))
  refine Go.loop (fun i : Nat => [(1, .im 2 .any (l.map StepV.av)), (2, .im 2 .any (a.map StepV.av)), (3, .im 2 .any (b.map StepV.av)), (9, .pt A.m 1 0 0), (11, .pt B.m 1 0 0), (13, .pt C.m 1 0 0), (15, i64 i)])
    (fun i H n => i ≤ l.length ∧ ∃ s A1 B1 C1, A1.m = A.m ∧ B1.m = B.m ∧ C1.m = C.m ∧ MAt o s A1 H n ∧ MAt o s B1 H n ∧ MAt o s C1 H n ∧ Far A1 B1 ∧ Far A1 C1 ∧ Far B1 C1 ∧ Good o s ∧ s.prints.length ≤ i)
    (fun i => l.length - i) 0 aLess ⟨Nat.zero_le _, initM o, A, B, C, rfl, rfl, rfl, hA3.keep aKeep aNx, hB3.keep aKeep aNx, hC.keep aKeep aNx, fAB, fAC, fBC, good_init ok, Nat.zero_le _⟩ ?_
  rintro i H n ⟨hi, s, A1, B1, C1, mA, mB, mC, hA1, hB1, hC1, f1, f2, f3, g, hpr⟩
  rw [← mA, ← mB, ← mC]
  clear hA3 hB3 hC fAB fAC fBC
  repeat' (first
      | ((with_reducible refine Go.red ?_); conv => whnf)
      | (with_reducible refine Go.and ?_ ?_)
      | (with_reducible exact True.intro)
      | (with_reducible refine Go.far ?_)
      | ((with_reducible refine Apt.mk ?_); (try dsimp only); omega)
      | ((with_reducible refine Ask.mk ?_); first | exact aAsk | exact aAsk2)
      | ((with_reducible refine Go.ari64 ?_ ?_ ?_); (· exact aBnd); (· exact aBnd))
      | ((with_reducible refine Go.ariu8 ?_ ?_ ?_); (· exact aBnd); (· exact aBnd))
      | (with_reducible refine Go.ari0 ?_)
      | (apply Go.elem; (· exact aElem))
      | (apply Go.row; (· exact aRow))
      | (apply Go.gives; (· exact aGives))
      | (apply Go.gives; (· exact aRes))
      | (with_reducible refine Go.unroll ?_)
      | (refine Go.gt rfl ?_)
      | (refine Go.gf rfl ?_)
      | (with_reducible refine Go.join ?_)
      | (refine Go.lt' rfl ?_)
      | (refine Go.lf' rfl ?_)
      | ((with_reducible refine Go.bool ?_ ?_) <;> intro hc <;> (try simp only [List.length_map, ne_eq, hcs] at hc) <;> try (exfalso; omega))
      | ((with_reducible refine Res.eq ?_ ?_); (· exact aFit)))
  · refine Go.callN (step_call (hA1.keep aKeep aNx) g ok (by omega) (l.getD i default).kind (l.getD i default).core) ?_
    rintro _ H5 n5 ⟨rfl, hn5, ⟨A2, hA2, hmv⟩, hfr⟩
    have q5 : n ≤ n5 := Nat.le_trans aNx hn5
    have fr5 : ∀ x, x < n → x ∉ A1.ids → getH H5 x = getH H x := fun x hx hxo => (hfr x aNx hxo).trans aSkip
    have id5 : ∀ x, x ∈ A2.ids → x ∈ A1.ids ∨ n ≤ x := fun x hx => (hmv.ids x hx).imp id (fun hh => Nat.le_trans aNx hh)
    have hB2 := hB1.beside f1 fr5 q5
    have hC2 := hC1.beside f2 fr5 q5
    have k1 : Far A2 B1 := f1.moves id5 hB1.lt
    have k2 : Far A2 C1 := f2.moves id5 hC1.lt
    have m5 := hmv.m
    clear hfr hmv hn5 fr5 id5 hA1 hB1 hC1 f1 f2
    repeat' (first
        | ((with_reducible refine Go.red ?_); conv => whnf)
        | (with_reducible refine Go.and ?_ ?_)
        | (with_reducible exact True.intro)
        | (with_reducible refine Go.far ?_)
        | ((with_reducible refine Apt.mk ?_); (try dsimp only); omega)
        | ((with_reducible refine Ask.mk ?_); first | exact aAsk | exact aAsk2)
        | ((with_reducible refine Go.ari64 ?_ ?_ ?_); (· exact aBnd); (· exact aBnd))
        | ((with_reducible refine Go.ariu8 ?_ ?_ ?_); (· exact aBnd); (· exact aBnd))
        | (with_reducible refine Go.ari0 ?_)
        | (apply Go.elem; (· exact aElem))
        | (apply Go.row; (· exact aRow))
        | (apply Go.gives; (· exact aGives))
        | (apply Go.gives; (· exact aRes))
        | (with_reducible refine Go.unroll ?_)
        | (refine Go.gt rfl ?_)
        | (refine Go.gf rfl ?_)
        | (with_reducible refine Go.join ?_)
        | (refine Go.lt' rfl ?_)
        | (refine Go.lf' rfl ?_)
        | ((with_reducible refine Go.bool ?_ ?_) <;> intro hc <;> (try simp only [List.length_map, ne_eq, hcs] at hc) <;> try (exfalso; omega))
        | ((with_reducible refine Res.eq ?_ ?_); (· exact aFit)))
    refine Go.callN (step_call (hB2.keep aKeep aNx) g ok (by omega) (l.getD i default).kind (l.getD i default).core) ?_
    rintro _ H6 n6 ⟨rfl, hn6, ⟨B2, hB3, hmv⟩, hfr⟩
    have q6 : n5 ≤ n6 := Nat.le_trans aNx hn6
    have fr6 : ∀ x, x < n5 → x ∉ B1.ids → getH H6 x = getH H5 x := fun x hx hxo => (hfr x aNx hxo).trans aSkip
    have id6 : ∀ x, x ∈ B2.ids → x ∈ B1.ids ∨ n5 ≤ x := fun x hx => (hmv.ids x hx).imp id (fun hh => Nat.le_trans aNx hh)
    have hA3 := hA2.beside k1.symm fr6 q6
    have hC3 := hC2.beside f3 fr6 q6
    have k3 : Far A2 B2 := (k1.symm.moves id6 hA2.lt).symm
    have k4 : Far B2 C1 := f3.moves id6 hC2.lt
    have m6 := hmv.m
    clear hfr hmv hn6 fr6 id6 hB2 hA2 hC2 f3 k1
    repeat' (first
        | ((with_reducible refine Go.red ?_); conv => whnf)
        | (with_reducible refine Go.and ?_ ?_)
        | (with_reducible exact True.intro)
        | (with_reducible refine Go.far ?_)
        | ((with_reducible refine Apt.mk ?_); (try dsimp only); omega)
        | ((with_reducible refine Ask.mk ?_); first | exact aAsk | exact aAsk2)
        | ((with_reducible refine Go.ari64 ?_ ?_ ?_); (· exact aBnd); (· exact aBnd))
        | ((with_reducible refine Go.ariu8 ?_ ?_ ?_); (· exact aBnd); (· exact aBnd))
        | (with_reducible refine Go.ari0 ?_)
        | (apply Go.elem; (· exact aElem))
        | (apply Go.row; (· exact aRow))
        | (apply Go.gives; (· exact aGives))
        | (apply Go.gives; (· exact aRes))
        | (with_reducible refine Go.unroll ?_)
        | (refine Go.gt rfl ?_)
        | (refine Go.gf rfl ?_)
        | (with_reducible refine Go.join ?_)
        | (refine Go.lt' rfl ?_)
        | (refine Go.lf' rfl ?_)
        | ((with_reducible refine Go.bool ?_ ?_) <;> intro hc <;> (try simp only [List.length_map, ne_eq, hcs] at hc) <;> try (exfalso; omega))
        | ((with_reducible refine Res.eq ?_ ?_); (· exact aFit)))
    refine Go.callN (step_call (hC3.keep aKeep aNx) g ok (by omega) (l.getD i default).kind (l.getD i default).core) ?_
    rintro _ H7 n7 ⟨rfl, hn7, ⟨C2, hC4, hmv⟩, hfr⟩
    have q7 : n6 ≤ n7 := Nat.le_trans aNx hn7
    have fr7 : ∀ x, x < n6 → x ∉ C1.ids → getH H7 x = getH H6 x := fun x hx hxo => (hfr x aNx hxo).trans aSkip
    have id7 : ∀ x, x ∈ C2.ids → x ∈ C1.ids ∨ n6 ≤ x := fun x hx => (hmv.ids x hx).imp id (fun hh => Nat.le_trans aNx hh)
    have hA4 := hA3.beside k2.symm fr7 q7
    have hB4 := hB3.beside k4.symm fr7 q7
    have k5 : Far A2 C2 := (k2.symm.moves id7 hA3.lt).symm
    have k6 : Far B2 C2 := (k4.symm.moves id7 hB3.lt).symm
    have m7 := hmv.m
    have hp3 := prints_step o s (l.getD i default).kind (l.getD i default).core
    clear hfr hmv hn7 fr7 id7 hA3 hB3 hC3
    repeat' (first
        | ((with_reducible refine Go.red ?_); conv => whnf)
        | (with_reducible refine Go.and ?_ ?_)
        | (with_reducible exact True.intro)
        | (with_reducible refine Go.far ?_)
        | ((with_reducible refine Apt.mk ?_); (try dsimp only); omega)
        | ((with_reducible refine Ask.mk ?_); first | exact aAsk | exact aAsk2)
        | ((with_reducible refine Go.ari64 ?_ ?_ ?_); (· exact aBnd); (· exact aBnd))
        | ((with_reducible refine Go.ariu8 ?_ ?_ ?_); (· exact aBnd); (· exact aBnd))
        | (with_reducible refine Go.ari0 ?_)
        | (apply Go.elem; (· exact aElem))
        | (apply Go.row; (· exact aRow))
        | (apply Go.gives; (· exact aGives))
        | (apply Go.gives; (· exact aRes))
        | (with_reducible refine Go.unroll ?_)
        | (refine Go.gt rfl ?_)
        | (refine Go.gf rfl ?_)
        | (with_reducible refine Go.join ?_)
        | (refine Go.lt' rfl ?_)
        | (refine Go.lf' rfl ?_)
        | ((with_reducible refine Go.bool ?_ ?_) <;> intro hc <;> (try simp only [List.length_map, ne_eq, hcs] at hc) <;> try (exfalso; omega))
        | ((with_reducible refine Res.eq ?_ ?_); (· exact aFit)))
    exact ⟨i + 1, by omega, aLess, by omega, _, A2, B2, C2, m5, m6, m7, hA4.keep aKeep aNx, hB4.keep aKeep aNx, hC4.keep aKeep aNx, k3, k5, k6, g.step ok _ _, by omega⟩
  refine Go.callN (fork_call (hA1.keep aKeep aNx) g ok (by omega)) ?_
  rintro _ H5 n5 ⟨F, rfl, hF, p1, p2, p3⟩
  have q5 : n ≤ n5 := Nat.le_trans aNx p2
  have fr5 : ∀ x, x < n → getH H5 x = getH H x := fun x hx => (p3 x aNx).trans aSkip
  have hA2 := hA1.keep fr5 q5
  have hB2 := hB1.keep fr5 q5
  have hC2 := hC1.keep fr5 q5
  have f4 : Far A1 F := fun x hx hm => by have h1 := hA1.lt x hx; have h2 := p1 x hm; have h3 : n ≤ x := Nat.le_trans aNx h2; omega
  have f5 : Far B1 F := fun x hx hm => by have h1 := hB1.lt x hx; have h2 := p1 x hm; have h3 : n ≤ x := Nat.le_trans aNx h2; omega
  have f6 : Far C1 F := fun x hx hm => by have h1 := hC1.lt x hx; have h2 := p1 x hm; have h3 : n ≤ x := Nat.le_trans aNx h2; omega
  clear p1 p2 p3 hA1 hB1 hC1 fr5
  repeat' (first
      | ((with_reducible refine Go.red ?_); conv => whnf)
      | (with_reducible refine Go.and ?_ ?_)
      | (with_reducible exact True.intro)
      | (with_reducible refine Go.far ?_)
      | ((with_reducible refine Apt.mk ?_); (try dsimp only); omega)
      | ((with_reducible refine Ask.mk ?_); first | exact aAsk | exact aAsk2)
      | ((with_reducible refine Go.ari64 ?_ ?_ ?_); (· exact aBnd); (· exact aBnd))
      | ((with_reducible refine Go.ariu8 ?_ ?_ ?_); (· exact aBnd); (· exact aBnd))
      | (with_reducible refine Go.ari0 ?_)
      | (apply Go.elem; (· exact aElem))
      | (apply Go.row; (· exact aRow))
      | (apply Go.gives; (· exact aGives))
      | (apply Go.gives; (· exact aRes))
      | (with_reducible refine Go.unroll ?_)
      | (refine Go.gt rfl ?_)
      | (refine Go.gf rfl ?_)
      | (with_reducible refine Go.join ?_)
      | (refine Go.lt' rfl ?_)
      | (refine Go.lf' rfl ?_)
      | ((with_reducible refine Go.bool ?_ ?_) <;> intro hc <;> (try simp only [List.length_map, ne_eq, hcs] at hc) <;> try (exfalso; omega))
      | ((with_reducible refine Res.eq ?_ ?_); (· exact aFit)))
  refine Go.loop (fun i : Nat => [(2, .im 2 .any (a.map StepV.av)), (3, .im 2 .any (b.map StepV.av)), (9, .pt A1.m 1 0 0), (11, .pt B1.m 1 0 0), (13, .pt C1.m 1 0 0), (16, .pt F.m 1 0 0), (17, i64 i)])
    (fun j H n => (j ≤ a.length ∨ j ≤ b.length) ∧ ∃ s1 s2 A2 B2 C2 F2, A2.m = A1.m ∧ B2.m = B1.m ∧ C2.m = C1.m ∧ F2.m = F.m ∧ MAt o s1 A2 H n ∧ MAt o s1 B2 H n ∧ MAt o s2 F2 H n ∧ MAt o s2 C2 H n ∧ Far A2 B2 ∧ Far A2 C2 ∧ Far A2 F2 ∧ Far B2 C2 ∧ Far B2 F2 ∧ Far C2 F2 ∧ Good o s1 ∧ Good o s2 ∧ s1.prints.length ≤ l.length + j ∧ s2.prints.length ≤ l.length + j)
    (fun j => a.length + b.length - j) 0 aLess ⟨.inl (Nat.zero_le _), s, s, A1, B1, C1, F, rfl, rfl, rfl, rfl, hA2.keep aKeep aNx, hB2.keep aKeep aNx, hF.keep aKeep aNx, hC2.keep aKeep aNx, f1, f2, f4, f3, f5, f6, g, g, by omega, by omega⟩ ?_
  clear hpr g hA2 hB2 hC2 hF f1 f2 f3 f4 f5 f6
  rintro j H n ⟨hj, s1, s2, A2, B2, C2, F2, mA2, mB2, mC2, mF2, hA2, hB2, hF2, hC2, f1, f2, f4, f3, f5, f6, g1, g2, p1, p2⟩
  rw [← mA2, ← mB2, ← mC2, ← mF2]
  repeat' (first
      | ((with_reducible refine Go.red ?_); conv => whnf)
      | (with_reducible refine Go.and ?_ ?_)
      | (with_reducible exact True.intro)
      | (with_reducible refine Go.far ?_)
      | ((with_reducible refine Apt.mk ?_); (try dsimp only); omega)
      | ((with_reducible refine Ask.mk ?_); first | exact aAsk | exact aAsk2)
      | ((with_reducible refine Go.ari64 ?_ ?_ ?_); (· exact aBnd); (· exact aBnd))
      | ((with_reducible refine Go.ariu8 ?_ ?_ ?_); (· exact aBnd); (· exact aBnd))
      | (with_reducible refine Go.ari0 ?_)
      | (apply Go.elem; (· exact aElem))
      | (apply Go.row; (· exact aRow))
      | (apply Go.gives; (· exact aGives))
      | (apply Go.gives; (· exact aRes))
      | (with_reducible refine Go.unroll ?_)
      | (refine Go.gt rfl ?_)
      | (refine Go.gf rfl ?_)
      | (with_reducible refine Go.join ?_)
      | (refine Go.lt' rfl ?_)
      | (refine Go.lf' rfl ?_)
      | ((with_reducible refine Go.bool ?_ ?_) <;> intro hc <;> (try simp only [List.length_map, ne_eq, hcs] at hc) <;> try (exfalso; omega))
      | ((with_reducible refine Res.eq ?_ ?_); (· exact aFit)))
  · refine Go.callN (step_call (hA2.keep aKeep aNx) g1 ok (by omega) (a.getD j default).kind (a.getD j default).core) ?_
    rintro _ H_1 n_1 ⟨rfl, hn_1, ⟨A_1, hA_1, hmv⟩, hfr⟩
    have q_1 : n ≤ n_1 := Nat.le_trans aNx hn_1
    have fr_1 : ∀ x, x < n → x ∉ A2.ids → getH H_1 x = getH H x := fun x hx hxo => (hfr x aNx hxo).trans aSkip
    have id_1 : ∀ x, x ∈ A_1.ids → x ∈ A2.ids ∨ n ≤ x := fun x hx => (hmv.ids x hx).imp id (fun hh => Nat.le_trans aNx hh)
    have mm_1 := hmv.m
    have hB_1 := hB2.beside (f1) fr_1 q_1
    have kB_1 : Far A_1 B2 := (f1).moves id_1 hB2.lt
    have hC_1 := hC2.beside (f2) fr_1 q_1
    have kC_1 : Far A_1 C2 := (f2).moves id_1 hC2.lt
    have hF_1 := hF2.beside (f4) fr_1 q_1
    have kF_1 : Far A_1 F2 := (f4).moves id_1 hF2.lt
    clear hfr hmv hn_1 fr_1 id_1 hA2 hB2 hC2 hF2
    repeat' (first
        | ((with_reducible refine Go.red ?_); conv => whnf)
        | (with_reducible refine Go.and ?_ ?_)
        | (with_reducible exact True.intro)
        | (with_reducible refine Go.far ?_)
        | ((with_reducible refine Apt.mk ?_); (try dsimp only); omega)
        | ((with_reducible refine Ask.mk ?_); first | exact aAsk | exact aAsk2)
        | ((with_reducible refine Go.ari64 ?_ ?_ ?_); (· exact aBnd); (· exact aBnd))
        | ((with_reducible refine Go.ariu8 ?_ ?_ ?_); (· exact aBnd); (· exact aBnd))
        | (with_reducible refine Go.ari0 ?_)
        | (apply Go.elem; (· exact aElem))
        | (apply Go.row; (· exact aRow))
        | (apply Go.gives; (· exact aGives))
        | (apply Go.gives; (· exact aRes))
        | (with_reducible refine Go.unroll ?_)
        | (refine Go.gt aSimp ?_)
        | (refine Go.lf' aSimp ?_)
        | (refine Go.gt rfl ?_)
        | (refine Go.gf rfl ?_)
        | (with_reducible refine Go.join ?_)
        | (refine Go.lt' rfl ?_)
        | (refine Go.lf' rfl ?_)
        | ((with_reducible refine Go.bool ?_ ?_) <;> intro hc <;> (try simp only [List.length_map, ne_eq, hcs] at hc) <;> try (exfalso; omega))
        | ((with_reducible refine Res.eq ?_ ?_); (· exact aFit)))
    refine Go.callN (step_call (hB_1.keep aKeep aNx) g1 ok (by omega) (a.getD j default).kind (a.getD j default).core) ?_
    rintro _ H_2 n_2 ⟨rfl, hn_2, ⟨B_2, hB_2, hmv⟩, hfr⟩
    have q_2 : n_1 ≤ n_2 := Nat.le_trans aNx hn_2
    have fr_2 : ∀ x, x < n_1 → x ∉ B2.ids → getH H_2 x = getH H_1 x := fun x hx hxo => (hfr x aNx hxo).trans aSkip
    have id_2 : ∀ x, x ∈ B_2.ids → x ∈ B2.ids ∨ n_1 ≤ x := fun x hx => (hmv.ids x hx).imp id (fun hh => Nat.le_trans aNx hh)
    have mm_2 := hmv.m
    have qq_2 : n_1 + 4 ≤ n_2 := Nat.le_trans aNx hn_2
    obtain ⟨dd_2, rd_2⟩ : ∃ dd, getH H_2 (n_1 + 3) = some (.row 33 7 dd [DidS.av (stepS o s1 (a.getD j default).kind (a.getD j default).core).2.1]) := ⟨_, (hfr _ aNx (fun hm => by have := hB_1.lt _ hm; omega)).trans aRow⟩
    have hA_2 := hA_1.beside (kB_1.symm) fr_2 q_2
    have kA_2 : Far B_2 A_1 := (kB_1.symm).moves id_2 hA_1.lt
    have hC_2 := hC_1.beside (f3) fr_2 q_2
    have kC_2 : Far B_2 C2 := (f3).moves id_2 hC_1.lt
    have hF_2 := hF_1.beside (f5) fr_2 q_2
    have kF_2 : Far B_2 F2 := (f5).moves id_2 hF_1.lt
    clear hfr hmv hn_2 fr_2 id_2 hA_1 hB_1 hC_1 hF_1
    have pa := prints_step o s1 (a.getD j default).kind (a.getD j default).core
    repeat' (first
        | ((with_reducible refine Go.red ?_); conv => whnf)
        | (with_reducible refine Go.and ?_ ?_)
        | (with_reducible exact True.intro)
        | (with_reducible refine Go.far ?_)
        | ((with_reducible refine Apt.mk ?_); (try dsimp only); omega)
        | ((with_reducible refine Ask.mk ?_); first | exact aAsk | exact aAsk2)
        | ((with_reducible refine Go.ari64 ?_ ?_ ?_); (· exact aBnd); (· exact aBnd))
        | ((with_reducible refine Go.ariu8 ?_ ?_ ?_); (· exact aBnd); (· exact aBnd))
        | (with_reducible refine Go.ari0 ?_)
        | (apply Go.elem; (· exact aElem))
        | (apply Go.row; (· exact aRow))
        | (apply Go.gives; (· exact aGives))
        | (apply Go.gives; (· exact aRes))
        | (with_reducible refine Go.unroll ?_)
        | (refine Go.gt aSimp ?_)
        | (refine Go.lf' aSimp ?_)
        | (refine Go.gt rfl ?_)
        | (refine Go.gf rfl ?_)
        | (with_reducible refine Go.join ?_)
        | (refine Go.lt' rfl ?_)
        | (refine Go.lf' rfl ?_)
        | ((with_reducible refine Go.bool ?_ ?_) <;> intro hc <;> (try simp only [List.length_map, ne_eq, hcs] at hc) <;> try (exfalso; omega))
        | ((with_reducible refine Res.eq ?_ ?_); (· exact aFit)))
    · refine Go.callN (step_call (hF_2.keep aKeep aNx) g2 ok (by omega) (b.getD j default).kind (b.getD j default).core) ?_
      rintro _ H_3 n_3 ⟨rfl, hn_3, ⟨F_3, hF_3, hmv⟩, hfr⟩
      have q_3 : n_2 ≤ n_3 := Nat.le_trans aNx hn_3
      have fr_3 : ∀ x, x < n_2 → x ∉ F2.ids → getH H_3 x = getH H_2 x := fun x hx hxo => (hfr x aNx hxo).trans aSkip
      have id_3 : ∀ x, x ∈ F_3.ids → x ∈ F2.ids ∨ n_2 ≤ x := fun x hx => (hmv.ids x hx).imp id (fun hh => Nat.le_trans aNx hh)
      have mm_3 := hmv.m
      have hA_3 := hA_2.beside (kF_1.symm) fr_3 q_3
      have kA_3 : Far F_3 A_1 := (kF_1.symm).moves id_3 hA_2.lt
      have hB_3 := hB_2.beside (kF_2.symm) fr_3 q_3
      have kB_3 : Far F_3 B_2 := (kF_2.symm).moves id_3 hB_2.lt
      have hC_3 := hC_2.beside (f6.symm) fr_3 q_3
      have kC_3 : Far F_3 C2 := (f6.symm).moves id_3 hC_2.lt
      clear hfr hmv hn_3 fr_3 id_3 hA_2 hB_2 hC_2 hF_2
      repeat' (first
          | ((with_reducible refine Go.red ?_); conv => whnf)
          | (with_reducible refine Go.and ?_ ?_)
          | (with_reducible exact True.intro)
          | (with_reducible refine Go.far ?_)
          | ((with_reducible refine Apt.mk ?_); (try dsimp only); omega)
          | ((with_reducible refine Ask.mk ?_); first | exact aAsk | exact aAsk2)
          | ((with_reducible refine Go.ari64 ?_ ?_ ?_); (· exact aBnd); (· exact aBnd))
          | ((with_reducible refine Go.ariu8 ?_ ?_ ?_); (· exact aBnd); (· exact aBnd))
          | (with_reducible refine Go.ari0 ?_)
          | (apply Go.elem; (· exact aElem))
          | (apply Go.row; (· exact aRow))
          | (apply Go.gives; (· exact aGives))
          | (apply Go.gives; (· exact aRes))
          | (with_reducible refine Go.unroll ?_)
          | (refine Go.gt aSimp ?_)
          | (refine Go.lf' aSimp ?_)
          | (refine Go.gt rfl ?_)
          | (refine Go.gf rfl ?_)
          | (with_reducible refine Go.join ?_)
          | (refine Go.lt' rfl ?_)
          | (refine Go.lf' rfl ?_)
          | ((with_reducible refine Go.bool ?_ ?_) <;> intro hc <;> (try simp only [List.length_map, ne_eq, hcs] at hc) <;> try (exfalso; omega))
          | ((with_reducible refine Res.eq ?_ ?_); (· exact aFit)))
      refine Go.callN (step_call (hC_3.keep aKeep aNx) g2 ok (by omega) (b.getD j default).kind (b.getD j default).core) ?_
      rintro _ H_4 n_4 ⟨rfl, hn_4, ⟨C_4, hC_4, hmv⟩, hfr⟩
      have q_4 : n_3 ≤ n_4 := Nat.le_trans aNx hn_4
      have fr_4 : ∀ x, x < n_3 → x ∉ C2.ids → getH H_4 x = getH H_3 x := fun x hx hxo => (hfr x aNx hxo).trans aSkip
      have id_4 : ∀ x, x ∈ C_4.ids → x ∈ C2.ids ∨ n_3 ≤ x := fun x hx => (hmv.ids x hx).imp id (fun hh => Nat.le_trans aNx hh)
      have mm_4 := hmv.m
      have qq_4 : n_3 + 4 ≤ n_4 := Nat.le_trans aNx hn_4
      obtain ⟨dd_4, rd_4⟩ : ∃ dd, getH H_4 (n_3 + 3) = some (.row 33 7 dd [DidS.av (stepS o s2 (b.getD j default).kind (b.getD j default).core).2.1]) := ⟨_, (hfr _ aNx (fun hm => by have := hC_3.lt _ hm; omega)).trans aRow⟩
      have hA_4 := hA_3.beside (kC_1.symm) fr_4 q_4
      have kA_4 : Far C_4 A_1 := (kC_1.symm).moves id_4 hA_3.lt
      have hB_4 := hB_3.beside (kC_2.symm) fr_4 q_4
      have kB_4 : Far C_4 B_2 := (kC_2.symm).moves id_4 hB_3.lt
      have hF_4 := hF_3.beside (kC_3.symm) fr_4 q_4
      have kF_4 : Far C_4 F_3 := (kC_3.symm).moves id_4 hF_3.lt
      clear hfr hmv hn_4 fr_4 id_4 hA_3 hB_3 hC_3 hF_3
      have pb := prints_step o s2 (b.getD j default).kind (b.getD j default).core
      repeat' (first
          | ((with_reducible refine Go.red ?_); conv => whnf)
          | (with_reducible refine Go.and ?_ ?_)
          | (with_reducible exact True.intro)
          | (with_reducible refine Go.far ?_)
          | ((with_reducible refine Apt.mk ?_); (try dsimp only); omega)
          | ((with_reducible refine Ask.mk ?_); first | exact aAsk | exact aAsk2)
          | ((with_reducible refine Go.ari64 ?_ ?_ ?_); (· exact aBnd); (· exact aBnd))
          | ((with_reducible refine Go.ariu8 ?_ ?_ ?_); (· exact aBnd); (· exact aBnd))
          | (with_reducible refine Go.ari0 ?_)
          | (apply Go.elem; (· exact aElem))
          | (apply Go.row; (· exact aRow))
          | (apply Go.gives; (· exact aGives))
          | (apply Go.gives; (· exact aRes))
          | (with_reducible refine Go.unroll ?_)
          | (refine Go.gt aSimp ?_)
          | (refine Go.lf' aSimp ?_)
          | (refine Go.gt rfl ?_)
          | (refine Go.gf rfl ?_)
          | (with_reducible refine Go.join ?_)
          | (refine Go.lt' rfl ?_)
          | (refine Go.lf' rfl ?_)
          | ((with_reducible refine Go.bool ?_ ?_) <;> intro hc <;> (try simp only [List.length_map, ne_eq, hcs] at hc) <;> try (exfalso; omega))
          | ((with_reducible refine Res.eq ?_ ?_); (· exact aFit)))
      exact ⟨j + 1, by omega, aLess, by omega, _, _, A_1, B_2, C_4, F_3, mm_1, mm_2, mm_4, mm_3, hA_4.keep aKeep aNx, hB_4.keep aKeep aNx, hF_4.keep aKeep aNx, hC_4.keep aKeep aNx, kA_2.symm, kA_4.symm, kA_3.symm, kB_4.symm, kB_3.symm, kF_4, (g1.step ok _ _), (g2.step ok _ _), by omega, by omega⟩
    · exact ⟨j + 1, by omega, aLess, by omega, _, s2, A_1, B_2, C2, F2, mm_1, mm_2, rfl, rfl, hA_2.keep aKeep aNx, hB_2.keep aKeep aNx, hF_2.keep aKeep aNx, hC_2.keep aKeep aNx, kA_2.symm, kC_1, kF_1, kC_2, kF_2, f6, (g1.step ok _ _), g2, by omega, by omega⟩
  · refine Go.callN (step_call (hF2.keep aKeep aNx) g2 ok (by omega) (b.getD j default).kind (b.getD j default).core) ?_
    rintro _ H_5 n_5 ⟨rfl, hn_5, ⟨F_5, hF_5, hmv⟩, hfr⟩
    have q_5 : n ≤ n_5 := Nat.le_trans aNx hn_5
    have fr_5 : ∀ x, x < n → x ∉ F2.ids → getH H_5 x = getH H x := fun x hx hxo => (hfr x aNx hxo).trans aSkip
    have id_5 : ∀ x, x ∈ F_5.ids → x ∈ F2.ids ∨ n ≤ x := fun x hx => (hmv.ids x hx).imp id (fun hh => Nat.le_trans aNx hh)
    have mm_5 := hmv.m
    have hA_5 := hA2.beside (f4.symm) fr_5 q_5
    have kA_5 : Far F_5 A2 := (f4.symm).moves id_5 hA2.lt
    have hB_5 := hB2.beside (f5.symm) fr_5 q_5
    have kB_5 : Far F_5 B2 := (f5.symm).moves id_5 hB2.lt
    have hC_5 := hC2.beside (f6.symm) fr_5 q_5
    have kC_5 : Far F_5 C2 := (f6.symm).moves id_5 hC2.lt
    clear hfr hmv hn_5 fr_5 id_5 hA2 hB2 hC2 hF2
    repeat' (first
        | ((with_reducible refine Go.red ?_); conv => whnf)
        | (with_reducible refine Go.and ?_ ?_)
        | (with_reducible exact True.intro)
        | (with_reducible refine Go.far ?_)
        | ((with_reducible refine Apt.mk ?_); (try dsimp only); omega)
        | ((with_reducible refine Ask.mk ?_); first | exact aAsk | exact aAsk2)
        | ((with_reducible refine Go.ari64 ?_ ?_ ?_); (· exact aBnd); (· exact aBnd))
        | ((with_reducible refine Go.ariu8 ?_ ?_ ?_); (· exact aBnd); (· exact aBnd))
        | (with_reducible refine Go.ari0 ?_)
        | (apply Go.elem; (· exact aElem))
        | (apply Go.row; (· exact aRow))
        | (apply Go.gives; (· exact aGives))
        | (apply Go.gives; (· exact aRes))
        | (with_reducible refine Go.unroll ?_)
        | (refine Go.gt aSimp ?_)
        | (refine Go.lf' aSimp ?_)
        | (refine Go.gt rfl ?_)
        | (refine Go.gf rfl ?_)
        | (with_reducible refine Go.join ?_)
        | (refine Go.lt' rfl ?_)
        | (refine Go.lf' rfl ?_)
        | ((with_reducible refine Go.bool ?_ ?_) <;> intro hc <;> (try simp only [List.length_map, ne_eq, hcs] at hc) <;> try (exfalso; omega))
        | ((with_reducible refine Res.eq ?_ ?_); (· exact aFit)))
    refine Go.callN (step_call (hC_5.keep aKeep aNx) g2 ok (by omega) (b.getD j default).kind (b.getD j default).core) ?_
    rintro _ H_6 n_6 ⟨rfl, hn_6, ⟨C_6, hC_6, hmv⟩, hfr⟩
    have q_6 : n_5 ≤ n_6 := Nat.le_trans aNx hn_6
    have fr_6 : ∀ x, x < n_5 → x ∉ C2.ids → getH H_6 x = getH H_5 x := fun x hx hxo => (hfr x aNx hxo).trans aSkip
    have id_6 : ∀ x, x ∈ C_6.ids → x ∈ C2.ids ∨ n_5 ≤ x := fun x hx => (hmv.ids x hx).imp id (fun hh => Nat.le_trans aNx hh)
    have mm_6 := hmv.m
    have qq_6 : n_5 + 4 ≤ n_6 := Nat.le_trans aNx hn_6
    obtain ⟨dd_6, rd_6⟩ : ∃ dd, getH H_6 (n_5 + 3) = some (.row 33 7 dd [DidS.av (stepS o s2 (b.getD j default).kind (b.getD j default).core).2.1]) := ⟨_, (hfr _ aNx (fun hm => by have := hC_5.lt _ hm; omega)).trans aRow⟩
    have hA_6 := hA_5.beside (f2.symm) fr_6 q_6
    have kA_6 : Far C_6 A2 := (f2.symm).moves id_6 hA_5.lt
    have hB_6 := hB_5.beside (f3.symm) fr_6 q_6
    have kB_6 : Far C_6 B2 := (f3.symm).moves id_6 hB_5.lt
    have hF_6 := hF_5.beside (kC_5.symm) fr_6 q_6
    have kF_6 : Far C_6 F_5 := (kC_5.symm).moves id_6 hF_5.lt
    clear hfr hmv hn_6 fr_6 id_6 hA_5 hB_5 hC_5 hF_5
    have pb := prints_step o s2 (b.getD j default).kind (b.getD j default).core
    repeat' (first
        | ((with_reducible refine Go.red ?_); conv => whnf)
        | (with_reducible refine Go.and ?_ ?_)
        | (with_reducible exact True.intro)
        | (with_reducible refine Go.far ?_)
        | ((with_reducible refine Apt.mk ?_); (try dsimp only); omega)
        | ((with_reducible refine Ask.mk ?_); first | exact aAsk | exact aAsk2)
        | ((with_reducible refine Go.ari64 ?_ ?_ ?_); (· exact aBnd); (· exact aBnd))
        | ((with_reducible refine Go.ariu8 ?_ ?_ ?_); (· exact aBnd); (· exact aBnd))
        | (with_reducible refine Go.ari0 ?_)
        | (apply Go.elem; (· exact aElem))
        | (apply Go.row; (· exact aRow))
        | (apply Go.gives; (· exact aGives))
        | (apply Go.gives; (· exact aRes))
        | (with_reducible refine Go.unroll ?_)
        | (refine Go.gt aSimp ?_)
        | (refine Go.lf' aSimp ?_)
        | (refine Go.gt rfl ?_)
        | (refine Go.gf rfl ?_)
        | (with_reducible refine Go.join ?_)
        | (refine Go.lt' rfl ?_)
        | (refine Go.lf' rfl ?_)
        | ((with_reducible refine Go.bool ?_ ?_) <;> intro hc <;> (try simp only [List.length_map, ne_eq, hcs] at hc) <;> try (exfalso; omega))
        | ((with_reducible refine Res.eq ?_ ?_); (· exact aFit)))
    exact ⟨j + 1, by omega, aLess, by omega, s1, _, A2, B2, C_6, F_5, rfl, rfl, mm_6, mm_5, hA_6.keep aKeep aNx, hB_6.keep aKeep aNx, hF_6.keep aKeep aNx, hC_6.keep aKeep aNx, f1, kA_6.symm, kA_5.symm, kB_6.symm, kB_5.symm, kF_6, g1, (g2.step ok _ _), by omega, by omega⟩
  refine alike_call hA2 hB2 (g1.lookable ok (by omega)) ?_
  repeat' (first
      | ((with_reducible refine Go.red ?_); conv => whnf)
      | (with_reducible refine Go.and ?_ ?_)
      | (with_reducible exact True.intro)
      | (with_reducible refine Go.far ?_)
      | ((with_reducible refine Apt.mk ?_); (try dsimp only); omega)
      | ((with_reducible refine Ask.mk ?_); first | exact aAsk | exact aAsk2)
      | ((with_reducible refine Go.ari64 ?_ ?_ ?_); (· exact aBnd); (· exact aBnd))
      | ((with_reducible refine Go.ariu8 ?_ ?_ ?_); (· exact aBnd); (· exact aBnd))
      | (with_reducible refine Go.ari0 ?_)
      | (apply Go.elem; (· exact aElem))
      | (apply Go.row; (· exact aRow))
      | (apply Go.gives; (· exact aGives))
      | (apply Go.gives; (· exact aRes))
      | (with_reducible refine Go.unroll ?_)
      | (refine Go.gt rfl ?_)
      | (refine Go.gf rfl ?_)
      | (with_reducible refine Go.join ?_)
      | (refine Go.lt' rfl ?_)
      | (refine Go.lf' rfl ?_)
      | ((with_reducible refine Go.bool ?_ ?_) <;> intro hc <;> (try simp only [List.length_map, ne_eq, hcs] at hc) <;> try (exfalso; omega))
      | ((with_reducible refine Res.eq ?_ ?_); (· exact aFit)))
  refine alike_call hF2 hC2 (g2.lookable ok (by omega)) ?_
  repeat' (first
      | ((with_reducible refine Go.red ?_); conv => whnf)
      | (with_reducible refine Go.and ?_ ?_)
      | (with_reducible exact True.intro)
      | (with_reducible refine Go.far ?_)
      | ((with_reducible refine Apt.mk ?_); (try dsimp only); omega)
      | ((with_reducible refine Ask.mk ?_); first | exact aAsk | exact aAsk2)
      | ((with_reducible refine Go.ari64 ?_ ?_ ?_); (· exact aBnd); (· exact aBnd))
      | ((with_reducible refine Go.ariu8 ?_ ?_ ?_); (· exact aBnd); (· exact aBnd))
      | (with_reducible refine Go.ari0 ?_)
      | (apply Go.elem; (· exact aElem))
      | (apply Go.row; (· exact aRow))
      | (apply Go.gives; (· exact aGives))
      | (apply Go.gives; (· exact aRes))
      | (with_reducible refine Go.unroll ?_)
      | (refine Go.gt rfl ?_)
      | (refine Go.gf rfl ?_)
      | (with_reducible refine Go.join ?_)
      | (refine Go.lt' rfl ?_)
      | (refine Go.lf' rfl ?_)
      | ((with_reducible refine Go.bool ?_ ?_) <;> intro hc <;> (try simp only [List.length_map, ne_eq, hcs] at hc) <;> try (exfalso; omega))
      | ((with_reducible refine Res.eq ?_ ?_); (· exact aFit)))
  exact rfl
end Go.Proofs.Ytliabecchkolgaa
