/- Each step answers one of four; what is ready does something. -/
import Derived.Test.YtliabecchkolgaaVtw
import Derived.Test.YtliabecchkolgaaVrdy
import Derived.Test.YtliabecchkolgaaVplay
import Derived.Test.YtliabecchkolgaaVa
namespace Go.Proofs.Ytliabecchkolgaa
open Go Go.Abs Go.Proofs
set_option linter.unusedSimpArgs false
set_option linter.unusedVariables false
theorem readyAt_nil {o : Obj} {s : Mach} (ok : ObjOk o) (q : Nat) : readyAt o s q = [] ↔ endedB (s.core q) = true := by
  rw [readyAt, List.append_eq_nil_iff]
  constructor
  · rintro ⟨h1, h2⟩
    have hb : (s.core q).buf.length = 0 := by
      by_cases h : 0 < (s.core q).buf.length
      · rw [if_pos h] at h2; cases h2
      · omega
    have hst := stalls_empty (s := s) ok (q := q) (List.eq_nil_of_length_eq_zero hb) (instrAt o s q)
    have hh : (s.core q).halted = true := by
      cases hh : (s.core q).halted with
      | true => rfl
      | false => rw [if_pos ⟨hh, hst⟩] at h1; cases h1
    show ((s.core q).halted && decide ((s.core q).buf.length = 0)) = true
    rw [hh, decide_eq_true hb]; rfl
  · intro h
    have h : ((s.core q).halted && decide ((s.core q).buf.length = 0)) = true := h
    rw [Bool.and_eq_true, decide_eq_true_eq] at h
    exact ⟨by rw [if_neg (by rw [h.1]; simp)], by rw [if_neg (by omega)]⟩
theorem ended_ready {o : Obj} {s : Mach} (ok : ObjOk o) : s.cores.all endedB = decide (readyN o s s.cores.length = []) := by
  rw [Bool.eq_iff_iff, decide_eq_true_eq, readyN, List.flatMap_eq_nil_iff]
  constructor
  · intro h q hq
    have hq2 : q < s.cores.length := by simpa using hq
    refine (readyAt_nil ok q).2 ?_
    have := List.all_eq_true.1 h (s.cores[q]) (List.getElem_mem hq2)
    have e : s.core q = s.cores[q] := by simp [List.getD, hq2]
    rw [e]; exact this
  · intro h
    exact all_getD default fun j hj => (readyAt_nil ok j).1 (h j (by simpa using hj))
theorem ready_does {o : Obj} {s : Mach} (g : Good o s) (ok : ObjOk o) {x : StepV} (hx : x ∈ readyN o s s.cores.length) : (stepS o s x.kind x.core).2.2 = 0 ∧ (stepS o s x.kind x.core).2.1.kind ≠ 0 ∧ (stepS o s x.kind x.core).2.1.core = x.core := by
  rw [readyN, List.mem_flatMap] at hx
  obtain ⟨q, hq, hx⟩ := hx
  have hq2 : q < s.cores.length := by simpa using hq
  have ho : ¬ out s q := by unfold out; omega
  rw [readyAt, List.mem_append] at hx
  rcases hx with hx | hx
  · by_cases h : (s.core q).halted = false ∧ stallsF o s q (instrAt o s q) = false
    · rw [if_pos h, List.mem_singleton] at hx
      subst hx
      have hd := does_act g ok hq2 h.2
      show (stepS o s 1 q).2.2 = 0 ∧ (stepS o s 1 q).2.1.kind ≠ 0 ∧ (stepS o s 1 q).2.1.core = q
      rw [stepS, if_pos rfl, runS, if_neg ho, Int.toNat_natCast, if_neg (by rw [h.1]; simp), if_neg (by rw [h.2]; simp)]
      exact ⟨rfl, fun h9 => absurd (show (1 : Int) ≤ 0 by rw [← h9]; exact hd.kind.1) (by decide), hd.core⟩
    · rw [if_neg h] at hx; cases hx
  · by_cases h : 0 < (s.core q).buf.length
    · rw [if_pos h, List.mem_singleton] at hx
      subst hx
      show (stepS o s 2 q).2.2 = 0 ∧ (stepS o s 2 q).2.1.kind ≠ 0 ∧ (stepS o s 2 q).2.1.core = q
      rw [stepS, if_neg (by decide), if_pos rfl, drainS, if_neg ho, Int.toNat_natCast]
      cases hb : (s.core q).buf with
      | nil => rw [hb] at h; cases h
      | cons y t => exact ⟨rfl, by simp, rfl⟩
    · rw [if_neg h] at hx; cases hx
theorem alike_total {o : Obj} {s : Mach} {A B : Lay} {H : Hp} {n m nx : Nat} (hA : MAt o s A H n) (hB : MAt o s B H m) (h : Lookable s) {K : AV → Hp → Nat → Prop} (hK : Go (K (bl true) H nx)) : CallW Try.prog 29 [.pt A.m 1 0 0, .pt B.m 1 0 0] H nx K :=
  Go.view (alike_fr o s h) (by rw [List.map_cons, List.map_cons, List.map_nil, hA.frz, hB.frz]) (by simp [fitL, fit_frozen]) trivial hK
theorem ended_total {o : Obj} {s : Mach} {A : Lay} {H : Hp} {n nx : Nat} (hA : MAt o s A H n) (hc : s.cores.length ≤ 8) {K : AV → Hp → Nat → Prop} (hK : Go (K (bl (s.cores.all endedB)) H nx)) : CallW Try.prog 32 [.pt A.m 1 0 0] H nx K :=
  Go.view (ended_fr o s hc) (by rw [List.map_cons, List.map_nil, hA.frz]) (by simp [fitL, fit_frozen]) trivial hK
theorem total_bad {o : Obj} (ho : o.Wf) (h : objOk o = false) (l : List StepV) : Pure Try.prog 11 [o.av, .im 2 .any (l.map StepV.av)] (fun r => r = bl true) := by
  refine Go.pure Try.func11 nm11 low11 res11 nt11 rfl ?_
  repeat' (first
    | ((with_reducible refine Go.red ?_); conv => whnf)
    | (with_reducible refine Go.and ?_ ?_)
    | (with_reducible exact True.intro)
    | (with_reducible refine Go.far ?_)
    | ((with_reducible refine Apt.mk ?_); (try dsimp only); omega)
    | ((with_reducible refine Ask.mk ?_); first | exact aAsk | exact aAsk2)
    | ((with_reducible refine Go.ari64 ?_ ?_ ?_); (· exact aBnd); (· exact aBnd))
    | ((with_reducible refine Go.ariu8 ?_ ?_ ?_); (· exact aBnd); (· exact aBnd))
    | (with_reducible refine Go.ari0 ?_)
    | (apply Go.elem; (· exact aElem))
    | (apply Go.row; (· exact aRow))
    | (apply Go.gives; (· exact aGives))
    | (apply Go.gives; (· exact aRes))
    | (with_reducible refine Go.unroll ?_)
    | (with_reducible refine Go.drawn ?_)
    | ((with_reducible refine Go.callW (begins_pure) ?_ ?_); (· exact aFit))
    | ((with_reducible refine Go.callJ (fun _ => begins_pure) ?_ ?_); (· exact aFit))
    | ((with_reducible refine Go.callE (begins_pure) ?_ ?_); (· exact aFit))
    | ((with_reducible refine Go.callF (fun _ => begins_pure) ?_ ?_); (· exact aFit))
    | (refine Go.gt rfl ?_)
    | (refine Go.gf rfl ?_)
    | (with_reducible refine Go.join ?_)
    | (refine Go.lt' rfl ?_)
    | (refine Go.lf' rfl ?_)
    | ((with_reducible refine Go.bool ?_ ?_) <;> intro hc <;> (try simp only [List.length_map, ne_eq, hcs] at hc) <;> try (exfalso; omega))
    | ((with_reducible refine Res.eq ?_ ?_); (· exact aFit)))
  refine Go.callN (made_bad ho h) ?_
  rintro _ H2 n2 ⟨rfl, h1, h3⟩
  have e0 : getH H2 0 = some (.row 25 5 .any [o.av]) := (h3 0 (by omega)).trans rfl
  have hn4 : 4 ≤ n2 := by omega
  clear h3
  repeat' (first
    | ((with_reducible refine Go.red ?_); conv => whnf)
    | (with_reducible refine Go.and ?_ ?_)
    | (with_reducible exact True.intro)
    | (with_reducible refine Go.far ?_)
    | ((with_reducible refine Apt.mk ?_); (try dsimp only); omega)
    | ((with_reducible refine Ask.mk ?_); first | exact aAsk | exact aAsk2)
    | ((with_reducible refine Go.ari64 ?_ ?_ ?_); (· exact aBnd); (· exact aBnd))
    | ((with_reducible refine Go.ariu8 ?_ ?_ ?_); (· exact aBnd); (· exact aBnd))
    | (with_reducible refine Go.ari0 ?_)
    | (apply Go.elem; (· exact aElem))
    | (apply Go.row; (· exact aRow))
    | (apply Go.gives; (· exact aGives))
    | (apply Go.gives; (· exact aRes))
    | (with_reducible refine Go.unroll ?_)
    | (with_reducible refine Go.drawn ?_)
    | (refine Go.gt rfl ?_)
    | (refine Go.gf rfl ?_)
    | (with_reducible refine Go.join ?_)
    | (refine Go.lt' rfl ?_)
    | (refine Go.lf' rfl ?_)
    | ((with_reducible refine Go.bool ?_ ?_) <;> intro hc <;> (try simp only [List.length_map, ne_eq, hcs] at hc) <;> try (exfalso; omega))
    | ((with_reducible refine Res.eq ?_ ?_); (· exact aFit)))
  exact rfl
set_option maxHeartbeats 20000000 in
set_option maxRecDepth 200000 in
theorem total_ok {o : Obj} (ho : o.Wf) (h : objOk o = true) (l : List StepV) (hl : l.length * 24 + 48 ≤ 140737488355328) : Pure Try.prog 11 [o.av, .im 2 .any (l.map StepV.av)] (fun r => r = bl true) := by
  refine Go.pure Try.func11 nm11 low11 res11 nt11 rfl ?_
  repeat' (first
    | ((with_reducible refine Go.red ?_); conv => whnf)
    | (with_reducible refine Go.and ?_ ?_)
    | (with_reducible exact True.intro)
    | (with_reducible refine Go.far ?_)
    | ((with_reducible refine Apt.mk ?_); (try dsimp only); omega)
    | ((with_reducible refine Ask.mk ?_); first | exact aAsk | exact aAsk2)
    | ((with_reducible refine Go.ari64 ?_ ?_ ?_); (· exact aBnd); (· exact aBnd))
    | ((with_reducible refine Go.ariu8 ?_ ?_ ?_); (· exact aBnd); (· exact aBnd))
    | (with_reducible refine Go.ari0 ?_)
    | (apply Go.elem; (· exact aElem))
    | (apply Go.row; (· exact aRow))
    | (apply Go.gives; (· exact aGives))
    | (apply Go.gives; (· exact aRes))
    | (with_reducible refine Go.unroll ?_)
    | (with_reducible refine Go.drawn ?_)
    | ((with_reducible refine Go.callW (begins_pure) ?_ ?_); (· exact aFit))
    | ((with_reducible refine Go.callJ (fun _ => begins_pure) ?_ ?_); (· exact aFit))
    | ((with_reducible refine Go.callE (begins_pure) ?_ ?_); (· exact aFit))
    | ((with_reducible refine Go.callF (fun _ => begins_pure) ?_ ?_); (· exact aFit))
    | (refine Go.gt rfl ?_)
    | (refine Go.gf rfl ?_)
    | (with_reducible refine Go.join ?_)
    | (refine Go.lt' rfl ?_)
    | (refine Go.lf' rfl ?_)
    | ((with_reducible refine Go.bool ?_ ?_) <;> intro hc <;> (try simp only [List.length_map, ne_eq, hcs] at hc) <;> try (exfalso; omega))
    | ((with_reducible refine Res.eq ?_ ?_); (· exact aFit)))
  have ok := objOk_ok h
  refine Go.callN (made_ok ho h) ?_
  rintro _ H2 n2 ⟨M, rfl, hM, h1, h2, h3⟩
  repeat' (first
    | ((with_reducible refine Go.red ?_); conv => whnf)
    | (with_reducible refine Go.and ?_ ?_)
    | (with_reducible exact True.intro)
    | (with_reducible refine Go.far ?_)
    | ((with_reducible refine Apt.mk ?_); (try dsimp only); omega)
    | ((with_reducible refine Ask.mk ?_); first | exact aAsk | exact aAsk2)
    | ((with_reducible refine Go.ari64 ?_ ?_ ?_); (· exact aBnd); (· exact aBnd))
    | ((with_reducible refine Go.ariu8 ?_ ?_ ?_); (· exact aBnd); (· exact aBnd))
    | (with_reducible refine Go.ari0 ?_)
    | (apply Go.elem; (· exact aElem))
    | (apply Go.row; (· exact aRow))
    | (apply Go.gives; (· exact aGives))
    | (apply Go.gives; (· exact aRes))
    | (with_reducible refine Go.unroll ?_)
    | (with_reducible refine Go.drawn ?_)
    | (refine Go.gt rfl ?_)
    | (refine Go.gf rfl ?_)
    | (with_reducible refine Go.join ?_)
    | (refine Go.lt' rfl ?_)
    | (refine Go.lf' rfl ?_)
    | ((with_reducible refine Go.bool ?_ ?_) <;> intro hc <;> (try simp only [List.length_map, ne_eq, hcs] at hc) <;> try (exfalso; omega))
    | ((with_reducible refine Res.eq ?_ ?_); (· exact aFit)))
  refine Go.loop (fun i : Nat => [(1, .im 2 .any (l.map StepV.av)), (5, .pt M.m 1 0 0), (7, i64 i)]) (fun i H n => i ≤ l.length ∧ ∃ A, A.m = M.m ∧ MAt o (atS o l i) A H n) (fun i => l.length - i) 0 aLess ⟨Nat.zero_le _, M, rfl, hM.keep aKeep aNx⟩ ?_
  clear h1 h2 h3
  rintro i H n ⟨hi, A, mA, hA⟩
  rw [← mA]
  have hg := atS_good ok l i hi
  by_cases hil : i < l.length
  · repeat' (first
        | ((with_reducible refine Go.red ?_); conv => whnf)
        | (with_reducible refine Go.and ?_ ?_)
        | (with_reducible exact True.intro)
        | (with_reducible refine Go.far ?_)
        | ((with_reducible refine Apt.mk ?_); (try dsimp only); omega)
        | ((with_reducible refine Ask.mk ?_); first | exact aAsk | exact aAsk2)
        | ((with_reducible refine Go.ari64 ?_ ?_ ?_); (· exact aBnd); (· exact aBnd))
        | ((with_reducible refine Go.ariu8 ?_ ?_ ?_); (· exact aBnd); (· exact aBnd))
        | (with_reducible refine Go.ari0 ?_)
        | (apply Go.elem; (· exact aElem))
        | (apply Go.row; (· exact aRow))
        | (apply Go.gives; (· exact aGives))
        | (apply Go.gives; (· exact aRes))
        | (with_reducible refine Go.unroll ?_)
        | (with_reducible refine Go.drawn ?_)
        | (refine Go.gt rfl ?_)
        | (refine Go.gf rfl ?_)
        | (with_reducible refine Go.join ?_)
        | (refine Go.lt' rfl ?_)
        | (refine Go.lf' rfl ?_)
        | ((with_reducible refine Go.bool ?_ ?_) <;> intro hc <;> (try simp only [List.length_map, ne_eq, hcs] at hc) <;> try (exfalso; omega))
        | ((with_reducible refine Res.eq ?_ ?_); (· exact aFit)))
    refine Go.callN (fork_call (hA.keep aKeep aNx) hg.1 ok (by omega)) ?_
    rintro _ H5 n5 ⟨W, rfl, hW, hW0, hn5, hf5⟩
    have q5 : n ≤ n5 := Nat.le_trans aNx hn5
    have hA2 : MAt o (atS o l i) A H5 n5 := hA.keep (fun x hx => (hf5 x aNx).trans aSkip) q5
    have far : Far A W := fun x hx hm => by have h1 := hA.lt x hx; have h2 := hW0 x hm; have h3 : n ≤ x := Nat.le_trans aNx h2; omega
    clear hf5 hn5 hW0 hA
    repeat' (first
        | ((with_reducible refine Go.red ?_); conv => whnf)
        | (with_reducible refine Go.and ?_ ?_)
        | (with_reducible exact True.intro)
        | (with_reducible refine Go.far ?_)
        | ((with_reducible refine Apt.mk ?_); (try dsimp only); omega)
        | ((with_reducible refine Ask.mk ?_); first | exact aAsk | exact aAsk2)
        | ((with_reducible refine Go.ari64 ?_ ?_ ?_); (· exact aBnd); (· exact aBnd))
        | ((with_reducible refine Go.ariu8 ?_ ?_ ?_); (· exact aBnd); (· exact aBnd))
        | (with_reducible refine Go.ari0 ?_)
        | (apply Go.elem; (· (first | exact getD_av _ _ _ _ hil | exact aElem)))
        | (apply Go.row; (· exact aRow))
        | (apply Go.gives; (· exact aGives))
        | (apply Go.gives; (· exact aRes))
        | (with_reducible refine Go.unroll ?_)
        | (with_reducible refine Go.drawn ?_)
        | (refine Go.gt rfl ?_)
        | (refine Go.gf rfl ?_)
        | (with_reducible refine Go.join ?_)
        | (refine Go.lt' rfl ?_)
        | (refine Go.lf' rfl ?_)
        | ((with_reducible refine Go.bool ?_ ?_) <;> intro hc <;> (try simp only [List.length_map, ne_eq, hcs] at hc) <;> try (exfalso; omega))
        | ((with_reducible refine Res.eq ?_ ?_); (· exact aFit)))
    refine Go.callN (step_call (hA2.keep aKeep aNx) hg.1 ok (by omega) (l.getD i default).kind (l.getD i default).core) ?_
    rintro _ H6 n6 ⟨rfl, hn6, ⟨A3, hA3, hmv⟩, hfr⟩
    have q6 : n5 ≤ n6 := Nat.le_trans aNx hn6
    have hW2 : MAt o (atS o l i) W H6 n6 := hW.beside far (fun x hx hxo => (hfr x aNx hxo).trans aSkip) q6
    have m6 := hmv.m
    rw [← m6]
    have hg2 : Good o (doesS o l i).1 := hg.1.step ok _ _
    have hlook := hg.1.lookable ok (by omega)
    have hnx := atS_next (o := o) hil
    have hA4 : MAt o (doesS o l i).1 A3 H6 n6 := hA3
    clear hfr hmv hn6 hA2 hW far hA3
    have hS := step_does hg.1 ok (l.getD i default).kind (l.getD i default).core
    have hds : doesS o l i = stepS o (atS o l i) (l.getD i default).kind (l.getD i default).core := rfl
    rw [← hds] at hS
    rw [show (stepS o (atS o l i) (l.getD i default).kind (l.getD i default).core) = doesS o l i from rfl]
    generalize doesS o l i = r at *
    cases hS with
    | bad e he =>
      rcases he with rfl | rfl | rfl
      all_goals
        repeat' (first
            | ((with_reducible refine Go.red ?_); conv => whnf)
            | (with_reducible refine Go.and ?_ ?_)
            | (with_reducible exact True.intro)
            | (with_reducible refine Go.far ?_)
            | ((with_reducible refine Apt.mk ?_); (try dsimp only); omega)
            | ((with_reducible refine Ask.mk ?_); first | exact aAsk | exact aAsk2)
            | ((with_reducible refine Go.ari64 ?_ ?_ ?_); (· exact aBnd); (· exact aBnd))
            | ((with_reducible refine Go.ariu8 ?_ ?_ ?_); (· exact aBnd); (· exact aBnd))
            | (with_reducible refine Go.ari0 ?_)
            | (apply Go.elem; (· exact aElem))
            | (apply Go.row; (· exact aRow))
            | (apply Go.gives; (· exact aGives))
            | (apply Go.gives; (· exact aRes))
            | (with_reducible refine Go.unroll ?_)
            | (with_reducible refine Go.drawn ?_)
            | (refine Go.gt rfl ?_)
            | (refine Go.gf rfl ?_)
            | (with_reducible refine Go.join ?_)
            | (refine Go.lt' rfl ?_)
            | (refine Go.lf' rfl ?_)
            | ((with_reducible refine Go.bool ?_ ?_) <;> intro hc <;> (try simp only [List.length_map, ne_eq, hcs] at hc) <;> try (exfalso; omega))
            | ((with_reducible refine Res.eq ?_ ?_); (· exact aFit)))
        refine alike_total (hA4.keep aKeep (Nat.le_refl _)) (hW2.keep aKeep (Nat.le_refl _)) hlook ?_
        repeat' (first
            | ((with_reducible refine Go.red ?_); conv => whnf)
            | (with_reducible refine Go.and ?_ ?_)
            | (with_reducible exact True.intro)
            | (with_reducible refine Go.far ?_)
            | ((with_reducible refine Apt.mk ?_); (try dsimp only); omega)
            | ((with_reducible refine Ask.mk ?_); first | exact aAsk | exact aAsk2)
            | ((with_reducible refine Go.ari64 ?_ ?_ ?_); (· exact aBnd); (· exact aBnd))
            | ((with_reducible refine Go.ariu8 ?_ ?_ ?_); (· exact aBnd); (· exact aBnd))
            | (with_reducible refine Go.ari0 ?_)
            | (apply Go.elem; (· exact aElem))
            | (apply Go.row; (· exact aRow))
            | (apply Go.gives; (· exact aGives))
            | (apply Go.gives; (· exact aRes))
            | (with_reducible refine Go.unroll ?_)
            | (with_reducible refine Go.drawn ?_)
            | (refine Go.gt rfl ?_)
            | (refine Go.gf rfl ?_)
            | (with_reducible refine Go.join ?_)
            | (refine Go.lt' rfl ?_)
            | (refine Go.lf' rfl ?_)
            | ((with_reducible refine Go.bool ?_ ?_) <;> intro hc <;> (try simp only [List.length_map, ne_eq, hcs] at hc) <;> try (exfalso; omega))
            | ((with_reducible refine Res.eq ?_ ?_); (· exact aFit)))
        exact ⟨i + 1, by omega, aLess, by omega, A3, rfl, by rw [hnx]; exact hA4.keep aKeep aNx⟩
    | idle hk =>
      repeat' (first
          | ((with_reducible refine Go.red ?_); conv => whnf)
          | (with_reducible refine Go.and ?_ ?_)
          | (with_reducible exact True.intro)
          | (with_reducible refine Go.far ?_)
          | ((with_reducible refine Apt.mk ?_); (try dsimp only); omega)
          | ((with_reducible refine Ask.mk ?_); first | exact aAsk | exact aAsk2)
          | ((with_reducible refine Go.ari64 ?_ ?_ ?_); (· exact aBnd); (· exact aBnd))
          | ((with_reducible refine Go.ariu8 ?_ ?_ ?_); (· exact aBnd); (· exact aBnd))
          | (with_reducible refine Go.ari0 ?_)
          | (apply Go.elem; (· exact aElem))
          | (apply Go.row; (· exact aRow))
          | (apply Go.gives; (· exact aGives))
          | (apply Go.gives; (· exact aRes))
          | (with_reducible refine Go.unroll ?_)
          | (with_reducible refine Go.drawn ?_)
          | (refine Go.gt rfl ?_)
          | (refine Go.gf rfl ?_)
          | (with_reducible refine Go.join ?_)
          | (refine Go.lt' rfl ?_)
          | (refine Go.lf' rfl ?_)
          | ((with_reducible refine Go.bool ?_ ?_) <;> intro hc <;> (try simp only [List.length_map, ne_eq, hcs] at hc) <;> try (exfalso; omega))
          | ((with_reducible refine Res.eq ?_ ?_); (· exact aFit)))
      exact ⟨i + 1, by omega, aLess, by omega, A3, rfl, by rw [hnx]; exact hA4.keep aKeep aNx⟩
    | does q hq d s2 hd =>
      repeat' (first
          | ((with_reducible refine Go.red ?_); conv => whnf)
          | (with_reducible refine Go.and ?_ ?_)
          | (with_reducible exact True.intro)
          | (with_reducible refine Go.far ?_)
          | ((with_reducible refine Apt.mk ?_); (try dsimp only); omega)
          | ((with_reducible refine Ask.mk ?_); first | exact aAsk | exact aAsk2)
          | ((with_reducible refine Go.ari64 ?_ ?_ ?_); (· exact aBnd); (· exact aBnd))
          | ((with_reducible refine Go.ariu8 ?_ ?_ ?_); (· exact aBnd); (· exact aBnd))
          | (with_reducible refine Go.ari0 ?_)
          | (apply Go.elem; (· exact aElem))
          | (apply Go.row; (· exact aRow))
          | (apply Go.gives; (· exact aGives))
          | (apply Go.gives; (· exact aRes))
          | (with_reducible refine Go.unroll ?_)
          | (with_reducible refine Go.drawn ?_)
          | (refine Go.gt rfl ?_)
          | (refine Go.gf rfl ?_)
          | (with_reducible refine Go.join ?_)
          | (refine Go.lt' rfl ?_)
          | (refine Go.lf' rfl ?_)
          | ((with_reducible refine Go.bool ?_ ?_) <;> intro hc <;> (try simp only [List.length_map, ne_eq, hcs] at hc) <;> try (exfalso; omega))
          | ((with_reducible refine Res.eq ?_ ?_); (· exact aFit)))
      exact ⟨i + 1, by omega, aLess, by omega, A3, rfl, by rw [hnx]; exact hA4.keep aKeep aNx⟩
  · have hin : i = l.length := by omega
    subst hin
    have hlook := hg.1.lookable ok (by omega)
    have hended := ended_ready (o := o) (s := atS o l l.length) ok
    have hrl := readyN_le o (atS o l l.length) (atS o l l.length).cores.length
    have hc8 := hlook.cores
    repeat' (first
        | ((with_reducible refine Go.red ?_); conv => whnf)
        | (with_reducible refine Go.and ?_ ?_)
        | (with_reducible exact True.intro)
        | (with_reducible refine Go.far ?_)
        | ((with_reducible refine Apt.mk ?_); (try dsimp only); omega)
        | ((with_reducible refine Ask.mk ?_); first | exact aAsk | exact aAsk2)
        | ((with_reducible refine Go.ari64 ?_ ?_ ?_); (· exact aBnd); (· exact aBnd))
        | ((with_reducible refine Go.ariu8 ?_ ?_ ?_); (· exact aBnd); (· exact aBnd))
        | (with_reducible refine Go.ari0 ?_)
        | (apply Go.elem; (· exact aElem))
        | (apply Go.row; (· exact aRow))
        | (apply Go.gives; (· exact aGives))
        | (apply Go.gives; (· exact aRes))
        | (with_reducible refine Go.unroll ?_)
        | (with_reducible refine Go.drawn ?_)
        | (refine Go.gt rfl ?_)
        | (refine Go.gf rfl ?_)
        | (with_reducible refine Go.join ?_)
        | (refine Go.lt' rfl ?_)
        | (refine Go.lf' rfl ?_)
        | ((with_reducible refine Go.bool ?_ ?_) <;> intro hc <;> (try simp only [List.length_map, ne_eq, hcs] at hc) <;> try (exfalso; omega))
        | ((with_reducible refine Res.eq ?_ ?_); (· exact aFit)))
    refine Go.callN (ready_call (hA.keep aKeep aNx) hg.1 hc8) ?_
    rintro _ _ _ ⟨rfl, rfl, rfl⟩
    repeat' (first
        | ((with_reducible refine Go.red ?_); conv => whnf)
        | (with_reducible refine Go.and ?_ ?_)
        | (with_reducible exact True.intro)
        | (with_reducible refine Go.far ?_)
        | ((with_reducible refine Apt.mk ?_); (try dsimp only); omega)
        | ((with_reducible refine Ask.mk ?_); first | exact aAsk | exact aAsk2)
        | ((with_reducible refine Go.ari64 ?_ ?_ ?_); (· exact aBnd); (· exact aBnd))
        | ((with_reducible refine Go.ariu8 ?_ ?_ ?_); (· exact aBnd); (· exact aBnd))
        | (with_reducible refine Go.ari0 ?_)
        | (apply Go.elem; (· exact aElem))
        | (apply Go.row; (· exact aRow))
        | (apply Go.gives; (· exact aGives))
        | (apply Go.gives; (· exact aRes))
        | (with_reducible refine Go.unroll ?_)
        | (with_reducible refine Go.drawn ?_)
        | (refine Go.gt rfl ?_)
        | (refine Go.gf rfl ?_)
        | (with_reducible refine Go.join ?_)
        | (refine Go.lt' rfl ?_)
        | (refine Go.lf' rfl ?_)
        | ((with_reducible refine Go.bool ?_ ?_) <;> intro hc <;> (try simp only [List.length_map, ne_eq, hcs] at hc) <;> try (exfalso; omega))
        | ((with_reducible refine Res.eq ?_ ?_); (· exact aFit)))
    refine ended_total (hA.keep aKeep (Nat.le_refl _)) hc8 ?_
    rw [hended]
    repeat' (first
        | ((with_reducible refine Go.red ?_); conv => whnf)
        | (with_reducible refine Go.and ?_ ?_)
        | (with_reducible exact True.intro)
        | (with_reducible refine Go.far ?_)
        | ((with_reducible refine Apt.mk ?_); (try dsimp only); omega)
        | ((with_reducible refine Ask.mk ?_); first | exact aAsk | exact aAsk2)
        | ((with_reducible refine Go.ari64 ?_ ?_ ?_); (· exact aBnd); (· exact aBnd))
        | ((with_reducible refine Go.ariu8 ?_ ?_ ?_); (· exact aBnd); (· exact aBnd))
        | (with_reducible refine Go.ari0 ?_)
        | (apply Go.elem; (· exact aElem))
        | (apply Go.row; (· exact aRow))
        | (apply Go.gives; (· exact aGives))
        | (apply Go.gives; (· exact aRes))
        | (with_reducible refine Go.unroll ?_)
        | (with_reducible refine Go.drawn ?_)
        | (refine Go.gt rfl ?_)
        | (refine Go.gf rfl ?_)
        | (with_reducible refine Go.join ?_)
        | (refine Go.lt' rfl ?_)
        | (refine Go.lf' rfl ?_)
        | ((with_reducible refine Go.bool ?_ ?_) <;> intro hc <;> (try simp only [List.length_map, ne_eq, hcs] at hc) <;> try (exfalso; omega))
        | ((with_reducible refine Res.eq ?_ ?_); (· exact aFit)))
    · exfalso
      have e : decide (readyN o (atS o l l.length) (atS o l l.length).cores.length = []) = decide (((readyN o (atS o l l.length) (atS o l l.length).cores.length).length : Int) = 0) := by
        rw [decide_eq_decide]
        exact ⟨fun h => by rw [h]; rfl, fun h => List.eq_nil_of_length_eq_zero (by omega)⟩
      rw [e] at hc
      simp at hc
    clear hc
    refine Go.loop (fun i : Nat => [(5, .pt A.m 1 0 0), (11, .sl (n + 5) (readyN o (atS o l l.length) (atS o l l.length).cores.length).length), (12, i64 i)]) (fun i H' n' => i ≤ (readyN o (atS o l l.length) (atS o l l.length).cores.length).length ∧ n + 6 ≤ n' ∧ MAt o (atS o l l.length) A H' n' ∧ ∃ d, getH H' (n + 5) = some (.row 46 2 d ((readyN o (atS o l l.length) (atS o l l.length).cores.length).map StepV.av))) (fun i => (readyN o (atS o l l.length) (atS o l l.length).cores.length).length - i) 0 aLess ⟨Nat.zero_le _, aNx, hA.keep aKeep aNx, _, aRow⟩ ?_
    have hAl := hA.lt
    clear hA
    rintro i H n' ⟨hi, hn, hA, d, rr⟩
    by_cases hil : i < (readyN o (atS o l l.length) (atS o l l.length).cores.length).length
    · have hdo := ready_does hg.1 ok (x := (readyN o (atS o l l.length) (atS o l l.length).cores.length).getD i default) (by simp [List.getD, hil])
      repeat' (first
          | ((with_reducible refine Go.red ?_); conv => whnf)
          | (with_reducible refine Go.and ?_ ?_)
          | (with_reducible exact True.intro)
          | (with_reducible refine Go.far ?_)
          | ((with_reducible refine Apt.mk ?_); (try dsimp only); omega)
          | ((with_reducible refine Ask.mk ?_); first | exact aAsk | exact aAsk2)
          | ((with_reducible refine Go.ari64 ?_ ?_ ?_); (· exact aBnd); (· exact aBnd))
          | ((with_reducible refine Go.ariu8 ?_ ?_ ?_); (· exact aBnd); (· exact aBnd))
          | (with_reducible refine Go.ari0 ?_)
          | (apply Go.elem; (· exact aElem))
          | (apply Go.row; (· exact aRow))
          | (apply Go.gives; (· exact aGives))
          | (apply Go.gives; (· exact aRes))
          | (with_reducible refine Go.unroll ?_)
          | (refine Go.gt rfl ?_)
          | (refine Go.gf rfl ?_)
          | (with_reducible refine Go.join ?_)
          | (refine Go.lt' rfl ?_)
          | (refine Go.lf' rfl ?_)
          | ((with_reducible refine Go.bool ?_ ?_) <;> intro hc <;> (try simp only [List.length_map, ne_eq, hcs] at hc) <;> try (exfalso; omega))
          | ((with_reducible refine Res.eq ?_ ?_); (· exact aFit)))
      refine DrawnW.wildF (I := fun L fr H nx => ∃ F b, TI o (atS o l l.length) A (readyN o (atS o l l.length) (atS o l l.length).cores.length) (n + 5) i (n + 6) L fr H nx F b) (total_wild hg.1 ok (by omega) hil) ?_ ?_
      · exact ⟨A, 0, rfl, rfl, rfl, fun k _ h => (by cases h), aNx, hA.keep aKeep aNx, ⟨_, aRow⟩, by omega, fun hm => (by have := hAl _ hm; omega), fun h => (by cases h), fun h => (by cases h), fun h => (by cases h)⟩
      intro L fr' H' nx' hall ⟨F, b, h⟩
      have a := fun k (hk : k < 12) => hall k hk
      have V := h.val
      have p13 : getF fr' 13 = .pt b 1 0 0 := V 10 (by omega) (a 10 (by omega))
      have p84 : getF fr' 84 = _ := V 9 (by omega) (a 9 (by omega))
      obtain ⟨d11, r13⟩ := h.c11 (a 11 (by omega))
      obtain ⟨b1, b2, b3, _, _⟩ := h.c10 (a 10 (by omega))
      have hA2 := h.hM
      obtain ⟨dr2, rr2⟩ := h.rr
      have q5 := h.t5
      have q11 := h.t11
      have q12 := h.t12
      have hlo := h.lo
      show ∃ f', lessF (putF fr' (some 14) (getF fr' 84)) f' ∧ _
      refine ⟨[(5, .pt A.m 1 0 0), (11, .sl (n + 5) (readyN o (atS o l l.length) (atS o l l.length).cores.length).length), (12, i64 i), (13, .pt b 1 0 0), (14, i64 (stepS o (atS o l l.length) ((readyN o (atS o l l.length) (atS o l l.length).cores.length).getD i default).kind ((readyN o (atS o l l.length) (atS o l l.length).cores.length).getD i default).core).2.2)], ⟨(getF_other (by decide)).trans q5, (getF_other (by decide)).trans q11, (getF_other (by decide)).trans q12, (getF_other (by decide)).trans p13, getF_same.trans p84, trivial⟩, ?_⟩
      clear h V p13 p84 a hall hA rr
      rw [hdo.1]
      repeat' (first
          | ((with_reducible refine Go.red ?_); conv => whnf)
          | (with_reducible refine Go.and ?_ ?_)
          | (with_reducible exact True.intro)
          | (with_reducible refine Go.far ?_)
          | ((with_reducible refine Apt.mk ?_); (try dsimp only); omega)
          | ((with_reducible refine Ask.mk ?_); first | exact aAsk | exact aAsk2)
          | ((with_reducible refine Go.ari64 ?_ ?_ ?_); (· exact aBnd); (· exact aBnd))
          | ((with_reducible refine Go.ariu8 ?_ ?_ ?_); (· exact aBnd); (· exact aBnd))
          | (with_reducible refine Go.ari0 ?_)
          | (apply Go.elem; (· (first | exact getD_av _ _ _ _ hil | exact aElem)))
          | (apply Go.row; (· exact aRow))
          | (apply Go.gives; (· exact aGives))
          | (apply Go.gives; (· exact aRes))
          | (with_reducible refine Go.unroll ?_)
          | (with_reducible refine Go.drawn ?_)
          | (refine Go.gt rfl ?_)
          | (refine Go.gf rfl ?_)
          | (with_reducible refine Go.join ?_)
          | (refine Go.lt' rfl ?_)
          | (refine Go.lf' rfl ?_)
          | ((with_reducible refine Go.bool ?_ ?_) <;> intro hc <;> (try simp only [List.length_map, ne_eq, hcs] at hc) <;> try (exfalso; omega))
          | ((with_reducible refine Res.eq ?_ ?_); (· exact aFit)))
      · exfalso
        rcases hc with (h | h) | h
        · exact h trivial
        · exact hdo.2.1 h
        · exact h hdo.2.2
      · exact ⟨i + 1, by omega, aLess, by omega, aNx, hA2.keep aKeep aNx, _, aRow⟩
    · repeat' (first
          | ((with_reducible refine Go.red ?_); conv => whnf)
          | (with_reducible refine Go.and ?_ ?_)
          | (with_reducible exact True.intro)
          | (with_reducible refine Go.far ?_)
          | ((with_reducible refine Apt.mk ?_); (try dsimp only); omega)
          | ((with_reducible refine Ask.mk ?_); first | exact aAsk | exact aAsk2)
          | ((with_reducible refine Go.ari64 ?_ ?_ ?_); (· exact aBnd); (· exact aBnd))
          | ((with_reducible refine Go.ariu8 ?_ ?_ ?_); (· exact aBnd); (· exact aBnd))
          | (with_reducible refine Go.ari0 ?_)
          | (apply Go.elem; (· exact aElem))
          | (apply Go.row; (· exact aRow))
          | (apply Go.gives; (· exact aGives))
          | (apply Go.gives; (· exact aRes))
          | (with_reducible refine Go.unroll ?_)
          | (with_reducible refine Go.drawn ?_)
          | (refine Go.gt rfl ?_)
          | (refine Go.gf rfl ?_)
          | (with_reducible refine Go.join ?_)
          | (refine Go.lt' rfl ?_)
          | (refine Go.lf' rfl ?_)
          | ((with_reducible refine Go.bool ?_ ?_) <;> intro hc <;> (try simp only [List.length_map, ne_eq, hcs] at hc) <;> try (exfalso; omega))
          | ((with_reducible refine Res.eq ?_ ?_); (· exact aFit)))
      exact rfl
end Go.Proofs.Ytliabecchkolgaa
