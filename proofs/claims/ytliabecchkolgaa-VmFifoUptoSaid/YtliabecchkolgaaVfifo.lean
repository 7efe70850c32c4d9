/- A core's stores go to memory in order. -/
import Derived.Test.YtliabecchkolgaaVfa
import Derived.Test.YtliabecchkolgaaVu
import Derived.Test.YtliabecchkolgaaVa
namespace Go.Proofs.Ytliabecchkolgaa
open Go Go.Abs Go.Proofs
set_option linter.unusedSimpArgs false
set_option linter.unusedVariables false
def SA (S : List (List StoreS)) : List (List AV) := S.map (List.map StoreS.av)
theorem SA_get (S : List (List StoreS)) (q : Nat) : (SA S).getD q [] = (S.getD q []).map StoreS.av := by
  simp only [SA, List.getD, List.getElem?_map]
  cases S[q]? <;> rfl
theorem SA_set (S : List (List StoreS)) (q : Nat) (l : List StoreS) : SA (S.set q l) = (SA S).set q (l.map StoreS.av) := by simp [SA, List.map_set]
theorem QAt_same {te e : TypeId} {sz b : Nat} {ids : List Nat} {S : List (List AV)} {H : Hp} (h : QAt te e sz b ids S H) {H' : Hp} {q : Nat} (hq : q < S.length) (l : List AV)
    (h1 : ∃ d es, getH H' b = some (.row te 1 d es) ∧ es = (qRow ids S).set q (.sl (ids.getD q 0) l.length)) (h2 : ∃ d es, getH H' (ids.getD q 0) = some (.row e sz d es) ∧ es = l)
    (h3 : ∀ j, j < S.length → j ≠ q → ids.getD j 0 ≠ b → ids.getD j 0 ≠ ids.getD q 0 → getH H' (ids.getD j 0) = getH H (ids.getD j 0)) : QAt te e sz b ids (S.set q l) H' := by
  have h4 := h.next hq l (.inl rfl) h1 h2 (fun j a1 a2 a3 a4 _ => h3 j a1 a2 a3 a4)
  have hqb : q < ids.length := by rw [h.lens]; exact hq
  have e : ids.getD q 0 = ids[q] := by simp [List.getD, hqb]
  rw [e, List.set_getElem_self] at h4
  exact h4
abbrev QF (b : Nat) (ids : List Nat) (S : List (List StoreS)) (H : Hp) : Prop := QAt 52 51 3 b ids (SA S) H
set_option maxHeartbeats 20000000 in
set_option maxRecDepth 200000 in
theorem fifo_pure {o : Obj} (ho : o.Wf) (h : objOk o = true) (l : List StepV) (hl : l.length * 24 + 48 ≤ 140737488355328) : Pure Try.prog 5 [o.av, .im 2 .any (l.map StepV.av)] (fun r => r = bl true) := by
  refine Go.pure Try.func5 nm5 low5 res5 nt5 rfl ?_
  repeat' (first
    | ((with_reducible refine Go.red ?_); conv => whnf)
    | (with_reducible refine Go.and ?_ ?_)
    | (with_reducible exact True.intro)
    | (with_reducible refine Go.far ?_)
    | ((with_reducible refine Apt.mk ?_); (try dsimp only); omega)
    | ((with_reducible refine Ask.mk ?_); first | exact aAsk | exact aAsk2)
    | ((with_reducible refine Go.ari64 ?_ ?_ ?_); (· exact aBnd); (· exact aBnd))
    | ((with_reducible refine Go.ariu8 ?_ ?_ ?_); (· exact aBnd); (· exact aBnd))
    | (with_reducible refine Go.ari0 ?_)
    | (apply Go.elem; (· exact aElem))
    | (apply Go.row; (· exact aRow))
    | (apply Go.gives; (· exact aGives))
    | (apply Go.gives; (· exact aRes))
    | (with_reducible refine Go.unroll ?_)
    | ((with_reducible refine Go.callW (begins_pure) ?_ ?_); (· exact aFit))
    | ((with_reducible refine Go.callJ (fun _ => begins_pure) ?_ ?_); (· exact aFit))
    | ((with_reducible refine Go.callE (begins_pure) ?_ ?_); (· exact aFit))
    | ((with_reducible refine Go.callF (fun _ => begins_pure) ?_ ?_); (· exact aFit))
    | (refine Go.gt rfl ?_)
    | (refine Go.gf rfl ?_)
    | (with_reducible refine Go.join ?_)
    | (refine Go.lt' rfl ?_)
    | (refine Go.lf' rfl ?_)
    | ((with_reducible refine Go.bool ?_ ?_) <;> intro hc <;> (try simp only [List.length_map, ne_eq, hcs] at hc) <;> try (exfalso; omega))
    | ((with_reducible refine Res.eq ?_ ?_); (· exact aFit)))
  refine Go.callN (made_ok ho h) ?_
  rintro _ H2 n2 ⟨L, rfl, hM, h1, h2, h3⟩
  have ok := objOk_ok h
  have hcl : (initM o).cores.length = o.cores.length := by simp [initM]
  have hc8 := ok.cores
  have e0 : getH H2 0 = some (.row 25 5 .any [o.av]) := (h3 0 (by omega)).trans rfl
  have hn4 : 4 ≤ n2 := by omega
  have hLlt := hM.lt
  clear h3
  repeat' (first
    | ((with_reducible refine Go.red ?_); conv => whnf)
    | (with_reducible refine Go.and ?_ ?_)
    | (with_reducible exact True.intro)
    | (with_reducible refine Go.far ?_)
    | ((with_reducible refine Apt.mk ?_); (try dsimp only); omega)
    | ((with_reducible refine Ask.mk ?_); first | exact aAsk | exact aAsk2)
    | ((with_reducible refine Go.ari64 ?_ ?_ ?_); (· exact aBnd); (· exact aBnd))
    | ((with_reducible refine Go.ariu8 ?_ ?_ ?_); (· exact aBnd); (· exact aBnd))
    | (with_reducible refine Go.ari0 ?_)
    | (apply Go.elem; (· exact aElem))
    | (apply Go.row; (· exact aRow))
    | (apply Go.gives; (· exact aGives))
    | (apply Go.gives; (· exact aRes))
    | (with_reducible refine Go.unroll ?_)
    | ((refine Go.lookW (hcl ▸ cores_call (hM.keep aKeep aNx)) ?_ ?_); (· exact True.intro))
    | ((refine Go.lookJ (fun _ => hcl ▸ cores_call (hM.keep aKeep aNx)) ?_ ?_); (· exact True.intro))
    | (refine Go.gt rfl ?_)
    | (refine Go.gf rfl ?_)
    | (with_reducible refine Go.join ?_)
    | (refine Go.lt' rfl ?_)
    | (refine Go.lf' rfl ?_)
    | ((with_reducible refine Go.bool ?_ ?_) <;> intro hc <;> (try simp only [List.length_map, ne_eq, hcs] at hc) <;> try (exfalso; omega))
    | ((with_reducible refine Res.eq ?_ ?_); (· exact aFit)))
  refine Go.loopT (fun i : Nat => [(1, .im 2 .any (l.map StepV.av)), (2, .pt 0 1 0 0), (5, .pt L.m 1 0 0), (7, .sl (n2 + 8) o.cores.length), (8, .sl (n2 + 11) o.cores.length), (9, i64 i)])
    (fun i H n => i ≤ l.length ∧ n2 + 12 ≤ n ∧ ∃ s L' ids S D, L'.m = L.m ∧ MAt o s L' H n ∧ Good o s ∧ s.prints.length ≤ i ∧ QF (n2 + 8) ids S H ∧ (∃ d, getH H (n2 + 11) = some (.row 3 1 d (D.map fun k : Nat => i64 k))) ∧ (∃ d, getH H 0 = some (.row 25 5 d [o.av])) ∧ Fifo s S D i ∧
      (∀ x ∈ L'.ids, x ≠ 0 ∧ x ≠ n2 + 11 ∧ x ∉ (n2 + 8) :: ids) ∧ (∀ x ∈ ids, x < n ∧ n2 + 12 ≤ x))
    (fun i => l.length - i) 0 aLess ⟨_, _, Wk.born (te := 52) (e := 51) (sz := 3) (b := n2 + 8) (n := o.cores.length) aNx (by omega) aRow, Nat.zero_le _, aNx, initM o, L, (List.range o.cores.length).map (n2 + 14 + ·), List.replicate o.cores.length [], List.replicate o.cores.length 0, rfl,
      hM.keep (fun b hb => (bornH_at aNx (by omega)).trans aSkip) aNx, good_init ok, Nat.zero_le _, ?_, ⟨zav false [.int .i64 0], ?_⟩, ⟨_, (bornH_at aNx (by omega)).trans aRow⟩, Fifo.init o, fun x hx => ?_, fun x hx => ?_⟩ ?_
  · show QAt _ _ 3 _ _ (SA (List.replicate o.cores.length [])) _
    rw [show SA (List.replicate o.cores.length []) = List.replicate o.cores.length [] by simp [SA]]
    exact QAt.born aNx
  · rw [show (List.replicate o.cores.length 0).map (fun k : Nat => i64 k) = List.replicate o.cores.length (i64 0) by simp]
    exact (bornH_at aNx (by omega)).trans aRow
  · have h4 := hLlt x hx
    have h5 := h2 x hx
    refine ⟨by omega, by omega, ?_⟩
    simp only [List.mem_cons, List.mem_map, List.mem_range, not_or, not_exists, not_and]
    exact ⟨by omega, fun i hi => by omega⟩
  · simp only [List.mem_map, List.mem_range] at hx
    obtain ⟨i, hi, rfl⟩ := hx
    exact ⟨by omega, by omega⟩
  rintro i H n ⟨hi, hn, s, L', ids, S, D, hLm, hM', g, hpr, hQ, ⟨dD, rD⟩, ⟨dO, rO⟩, hF, hout, hids⟩
  rw [← hLm]
  clear hM h2 e0 h1 hLlt
  repeat' (first
      | ((with_reducible refine Go.red ?_); conv => whnf)
      | (with_reducible refine Go.and ?_ ?_)
      | (with_reducible exact True.intro)
      | (with_reducible refine Go.far ?_)
      | ((with_reducible refine Apt.mk ?_); (try dsimp only); omega)
      | ((with_reducible refine Ask.mk ?_); first | exact aAsk | exact aAsk2)
      | ((with_reducible refine Go.ari64 ?_ ?_ ?_); (· exact aBnd); (· exact aBnd))
      | ((with_reducible refine Go.ariu8 ?_ ?_ ?_); (· exact aBnd); (· exact aBnd))
      | (with_reducible refine Go.ari0 ?_)
      | (apply Go.elem; (· exact aElem))
      | (apply Go.row; (· exact aRow))
      | (apply Go.gives; (· exact aGives))
      | (apply Go.gives; (· exact aRes))
      | (with_reducible refine Go.unroll ?_)
      | (refine Go.gt rfl ?_)
      | (refine Go.gf rfl ?_)
      | (with_reducible refine Go.join ?_)
      | (refine Go.lt' rfl ?_)
      | (refine Go.lf' rfl ?_)
      | ((with_reducible refine Go.bool ?_ ?_) <;> intro hc <;> (try simp only [List.length_map, ne_eq, hcs] at hc) <;> try (exfalso; omega))
      | ((with_reducible refine Res.eq ?_ ?_); (· exact aFit)))
  · refine Go.callN (step_call (hM'.keep aKeep aNx) g ok (by omega) (l.getD i default).kind (l.getD i default).core) ?_
    rintro _ H3 n3 ⟨rfl, hn3, ⟨L3, hM3, hmv⟩, hfr3⟩
    have hn6 : n ≤ n3 := Nat.le_trans aNx hn3
    have fr3 : ∀ b, b < n → b ∉ L'.ids → getH H3 b = getH H b := fun b hb hbo => (hfr3 b aNx hbo).trans aSkip
    have hid3 : ∀ b, b ∈ L3.ids → b ∈ L'.ids ∨ n ≤ b := fun b hb => (hmv.ids b hb).imp id (fun hh => Nat.le_trans aNx hh)
    have hmm := hmv.m
    clear hfr3 hmv hn3
    have hQ3 : QF (n2 + 8) ids S H3 := hQ.keep (fun x hx => fr3 x (by rcases List.mem_cons.1 hx with rfl | hx; omega; exact (hids x hx).1) (fun hm => (hout x hm).2.2 hx))
    have rD3 := (fr3 (n2 + 11) (by omega) (fun hm => (hout _ hm).2.1 rfl)).trans rD
    have rO3 := (fr3 0 (by omega) (fun hm => (hout _ hm).1 rfl)).trans rO
    have hout3 : ∀ x ∈ L3.ids, x ≠ 0 ∧ x ≠ n2 + 11 ∧ x ∉ (n2 + 8) :: ids := fun x hx => (hid3 x hx).elim (hout x) (fun hh => ⟨by omega, by omega, fun hm => by rcases List.mem_cons.1 hm with h8 | h8; omega; have := (hids x h8).1; omega⟩)
    have hids3 : ∀ x ∈ ids, x < n3 ∧ n2 + 12 ≤ x := fun x hx => ⟨by have := (hids x hx).1; omega, (hids x hx).2⟩
    have hS := step_does g ok (l.getD i default).kind (l.getD i default).core
    have g3 := g.step ok (l.getD i default).kind (l.getD i default).core
    have hp3 := prints_step o s (l.getD i default).kind (l.getD i default).core
    have hl3 := does_len g ok (l.getD i default).kind (l.getD i default).core
    rw [← hmm]
    clear hM' hQ rD rO hout hids fr3 hid3
    generalize stepS o s (l.getD i default).kind (l.getD i default).core = r3 at *
    cases hS with
    | bad e he =>
      simp only at hM3 g3 hp3 ⊢
      repeat' (first
          | ((with_reducible refine Go.red ?_); conv => whnf)
          | (with_reducible refine Go.and ?_ ?_)
          | (with_reducible exact True.intro)
          | (with_reducible refine Go.far ?_)
          | ((with_reducible refine Apt.mk ?_); (try dsimp only); omega)
          | ((with_reducible refine Ask.mk ?_); first | exact aAsk | exact aAsk2)
          | ((with_reducible refine Go.ari64 ?_ ?_ ?_); (· exact aBnd); (· exact aBnd))
          | ((with_reducible refine Go.ariu8 ?_ ?_ ?_); (· exact aBnd); (· exact aBnd))
          | (with_reducible refine Go.ari0 ?_)
          | (apply Go.elem; (· exact aElem))
          | (apply Go.row; (· exact aRow))
          | (apply Go.gives; (· exact aGives))
          | (apply Go.gives; (· exact aRes))
          | (with_reducible refine Go.unroll ?_)
          | (refine Go.gt rfl ?_)
          | (refine Go.gf rfl ?_)
          | (with_reducible refine Go.join ?_)
          | (refine Go.lt' rfl ?_)
          | (refine Go.lf' rfl ?_)
          | ((with_reducible refine Go.bool ?_ ?_) <;> intro hc <;> (try simp only [List.length_map, ne_eq, hcs] at hc) <;> try (exfalso; omega))
          | ((with_reducible refine Res.eq ?_ ?_); (· exact aFit)))
      exact ⟨i + 1, by omega, aLess, _, _, Wk.refl _ _ _, by omega, aNx, s, L3, ids, S, D, rfl, hM3.keep aKeep aNx, g, by omega, hQ3.keep (fun x hx => by have h9 : x < n3 := (by rcases List.mem_cons.1 hx with h8 | h8; omega; exact (hids3 x h8).1); exact aSkip), ⟨_, aRow⟩, ⟨_, aRow⟩, hF.more, hout3, fun x hx => ⟨by have := (hids3 x hx).1; exact Nat.lt_of_lt_of_le this aNx, (hids3 x hx).2⟩⟩
    | idle hk =>
      simp only at hM3 g3 hp3 ⊢
      repeat' (first
          | ((with_reducible refine Go.red ?_); conv => whnf)
          | (with_reducible refine Go.and ?_ ?_)
          | (with_reducible exact True.intro)
          | (with_reducible refine Go.far ?_)
          | ((with_reducible refine Apt.mk ?_); (try dsimp only); omega)
          | ((with_reducible refine Ask.mk ?_); first | exact aAsk | exact aAsk2)
          | ((with_reducible refine Go.ari64 ?_ ?_ ?_); (· exact aBnd); (· exact aBnd))
          | ((with_reducible refine Go.ariu8 ?_ ?_ ?_); (· exact aBnd); (· exact aBnd))
          | (with_reducible refine Go.ari0 ?_)
          | (apply Go.elem; (· exact aElem))
          | (apply Go.row; (· exact aRow))
          | (apply Go.gives; (· exact aGives))
          | (apply Go.gives; (· exact aRes))
          | (with_reducible refine Go.unroll ?_)
          | (refine Go.gt rfl ?_)
          | (refine Go.gf rfl ?_)
          | (with_reducible refine Go.join ?_)
          | (refine Go.lt' rfl ?_)
          | (refine Go.lf' rfl ?_)
          | ((with_reducible refine Go.bool ?_ ?_) <;> intro hc <;> (try simp only [List.length_map, ne_eq, hcs] at hc) <;> try (exfalso; omega))
          | ((with_reducible refine Res.eq ?_ ?_); (· exact aFit)))
      exact ⟨i + 1, by omega, aLess, _, _, Wk.refl _ _ _, by omega, aNx, s, L3, ids, S, D, rfl, hM3.keep aKeep aNx, g3, by omega, hQ3.keep (fun x hx => by have h9 : x < n3 := (by rcases List.mem_cons.1 hx with h8 | h8; omega; exact (hids3 x h8).1); exact aSkip), ⟨_, aRow⟩, ⟨_, aRow⟩, hF.more, hout3, fun x hx => ⟨by have := (hids3 x hx).1; exact Nat.lt_of_lt_of_le this aNx, (hids3 x hx).2⟩⟩
    | does q hq d s2 hd =>
      simp only at hM3 g3 hp3 hl3 ⊢
      have hlt := hd.lt
      have hcr := hd.core
      have hkd := hd.kind
      have hsc := g.n
      obtain ⟨dS, rS⟩ := hQ3.row
      have hSl : (SA S).length = s.cores.length := by simp only [SA, List.length_map]; exact hF.ls
      obtain ⟨dq, rq⟩ := hQ3.qs q (by rw [hSl]; exact hlt)
      rw [SA_get] at rq
      have hlS : (qRow ids (SA S)).length = o.cores.length := by rw [hQ3.len, hSl, hsc]
      have hgt : ∀ d, (qRow ids (SA S)).getD q d = .sl (ids.getD q 0) (S.getD q []).length := fun d => by rw [hQ3.get (by rw [hSl]; exact hlt), SA_get, List.length_map]
      have hgD : ∀ d, (D.map fun k : Nat => i64 k).getD q d = i64 (D.getD q 0 : Nat) := fun d => by rw [getD_av _ _ _ _ (by rw [hF.ld]; exact hlt)]; rfl
      have hlD : (D.map fun k : Nat => i64 k).length = o.cores.length := by rw [List.length_map, hF.ld, hsc]
      have hxq := hids3 _ (getD_mem (l := ids) (q := q) (by rw [hQ3.lens, hSl]; exact hlt))
      have hne := hQ3.ne (q := q) (by rw [hSl]; exact hlt)
      have hSi := (hF.q q hlt).2.2
      have hDi := (hF.q q hlt).1
      by_cases k3 : d.kind = 3
      · have hF2 := hF.store hd hl3 k3
        obtain ⟨kind, cr, pc, addr, word, put, own⟩ := d
        simp only at hcr hkd k3 hF2 ⊢
        subst hcr k3
        repeat' (first
            | ((with_reducible refine Go.red ?_); conv => whnf)
            | (with_reducible refine Go.and ?_ ?_)
            | (with_reducible exact True.intro)
            | (with_reducible refine Go.far ?_)
            | ((with_reducible refine Apt.mk ?_); (try dsimp only); omega)
            | ((with_reducible refine Ask.mk ?_); first | exact aAsk | exact aAsk2)
            | ((with_reducible refine Go.ari64 ?_ ?_ ?_); (· exact aBnd); (· exact aBnd))
            | ((with_reducible refine Go.ariu8 ?_ ?_ ?_); (· exact aBnd); (· exact aBnd))
            | (with_reducible refine Go.ari0 ?_)
            | (apply Go.elem; (· (first | exact hgt _ | exact aElem)))
            | (apply Go.row; (· exact aRow))
            | (apply Go.gives; (· exact aGives))
            | (apply Go.gives; (· exact aRes))
            | (with_reducible refine Go.unroll ?_)
            | (refine Go.gt rfl ?_)
            | (refine Go.gf rfl ?_)
            | (with_reducible refine Go.join ?_)
            | (refine Go.lt' rfl ?_)
            | (refine Go.lf' rfl ?_)
            | ((with_reducible refine Go.bool ?_ ?_) <;> intro hc <;> (try simp only [List.length_map, ne_eq, hcs] at hc) <;> try (exfalso; omega))
            | ((with_reducible refine Res.eq ?_ ?_); (· exact aFit)))
        refine ⟨i + 1, by omega, aLess, _, _, Wk.refl _ _ _, by omega, aNx, s2, L3, ids, S.set q (S.getD q [] ++ [⟨pc, addr, word⟩]), D, rfl, hM3.keepIds (fun x hx => ?_) aNx, g3, by omega, ?_, ⟨_, aRow⟩, ⟨_, aRow⟩, hF2, hout3, fun x hx => ⟨by have := (hids3 x hx).1; exact Nat.lt_of_lt_of_le this aNx, (hids3 x hx).2⟩⟩
        · have h9 := hM3.lt x hx
          have h10 := (hout3 x hx).2.2
          simp only [List.mem_cons, not_or] at h10
          have h11 : x ≠ ids.getD q 0 := fun he => h10.2 (he ▸ getD_mem (by rw [hQ3.lens, hSl]; exact hlt))
          have h12 := h10.1
          exact aSkip
        · show QAt _ _ 3 _ _ (SA _) _
          rw [SA_set]
          refine QAt_same hQ3 (by rw [hSl]; exact hlt) _ ⟨_, _, aRow, (by simp)⟩ ⟨_, _, aRow, (by rw [List.map_append]; rfl)⟩ (fun j hj m1 m2 m3 => ?_)
          have h9 := hids3 _ (getD_mem (l := ids) (q := j) (by rw [hQ3.lens]; exact hj))
          exact aSkip
      by_cases k8 : d.kind = 8
      · have hF2 := hF.drain hd hl3 k8
        obtain ⟨kind, cr, pc, addr, word, put, own⟩ := d
        simp only at hcr hkd k8 hF2 ⊢
        subst hcr k8
        obtain ⟨hlt2, hv, hF2⟩ := hF2
        repeat' (first
            | ((with_reducible refine Go.red ?_); conv => whnf)
            | (with_reducible refine Go.and ?_ ?_)
            | (with_reducible exact True.intro)
            | (with_reducible refine Go.far ?_)
            | ((with_reducible refine Apt.mk ?_); (try dsimp only); omega)
            | ((with_reducible refine Ask.mk ?_); first | exact aAsk | exact aAsk2)
            | ((with_reducible refine Go.ari64 ?_ ?_ ?_); (· exact aBnd); (· exact aBnd))
            | ((with_reducible refine Go.ariu8 ?_ ?_ ?_); (· exact aBnd); (· exact aBnd))
            | (with_reducible refine Go.ari0 ?_)
            | (apply Go.elem; (· (first | exact hgt _ | exact hgD _ | exact aElem)))
            | (apply Go.row; (· exact aRow))
            | (apply Go.gives; (· exact aGives))
            | (apply Go.gives; (· exact aRes))
            | (with_reducible refine Go.unroll ?_)
            | (refine Go.gt rfl ?_)
            | (refine Go.gf rfl ?_)
            | (with_reducible refine Go.join ?_)
            | (refine Go.lt' rfl ?_)
            | (refine Go.lf' rfl ?_)
            | ((with_reducible refine Go.bool ?_ ?_) <;> intro hc <;> (try simp only [List.length_map, ne_eq, hcs] at hc) <;> try (exfalso; omega))
            | ((with_reducible refine Res.eq ?_ ?_); (· exact aFit)))
        · exfalso
          rw [hv] at hc
          rcases hc with hc | hc | hc | hc | hc
          · omega
          · exact hc rfl
          · exact hc rfl
          · exact hc rfl
          · exact absurd hc (by simp)
        refine ⟨i + 1, by omega, aLess, _, _, Wk.refl _ _ _, by omega, aNx, s2, L3, ids, S, D.set q (D.getD q 0 + 1), rfl, hM3.keepIds (fun x hx => ?_) aNx, g3, by omega, hQ3.keep (fun x hx => ?_), ⟨_, (by rw [List.map_set]; exact aRow)⟩, ⟨_, aRow⟩, hF2, hout3, fun x hx => ⟨by have := (hids3 x hx).1; exact Nat.lt_of_lt_of_le this aNx, (hids3 x hx).2⟩⟩
        · have h9 := hM3.lt x hx
          have h10 := (hout3 x hx).2.1
          exact aSkip
        · have h9 : x < n3 := (by rcases List.mem_cons.1 hx with h8 | h8; omega; exact (hids3 x h8).1)
          have h10 : x ≠ n2 + 11 := (by rcases List.mem_cons.1 hx with h8 | h8; omega; have := (hids3 x h8).2; omega)
          exact aSkip
      have hF2 := hF.keep hd hl3 k3 k8
      have hw := hF.wait hd
      obtain ⟨kind, cr, pc, addr, word, put, own⟩ := d
      simp only at hcr hkd k3 k8 hF2 hw ⊢
      subst hcr
      repeat' (first
          | ((with_reducible refine Go.red ?_); conv => whnf)
          | (with_reducible refine Go.and ?_ ?_)
          | (with_reducible exact True.intro)
          | (with_reducible refine Go.far ?_)
          | ((with_reducible refine Apt.mk ?_); (try dsimp only); omega)
          | ((with_reducible refine Ask.mk ?_); first | exact aAsk | exact aAsk2)
          | ((with_reducible refine Go.ari64 ?_ ?_ ?_); (· exact aBnd); (· exact aBnd))
          | ((with_reducible refine Go.ariu8 ?_ ?_ ?_); (· exact aBnd); (· exact aBnd))
          | (with_reducible refine Go.ari0 ?_)
          | (apply Go.elem; (· (first | exact hgt _ | exact hgD _ | exact aElem)))
          | (apply Go.row; (· exact aRow))
          | (apply Go.gives; (· exact aGives))
          | (apply Go.gives; (· exact aRes))
          | (with_reducible refine Go.unroll ?_)
          | (refine Go.gt rfl ?_)
          | (refine Go.gf rfl ?_)
          | (with_reducible refine Go.join ?_)
          | (refine Go.lt' rfl ?_)
          | (refine Go.lf' rfl ?_)
          | ((with_reducible refine Go.bool ?_ ?_) <;> intro hc <;> (try simp only [List.length_map, ne_eq, hcs] at hc) <;> try (exfalso; omega))
          | ((with_reducible refine Res.eq ?_ ?_); (· exact aFit)))
      all_goals first | (exact ⟨i + 1, by omega, aLess, _, _, Wk.refl _ _ _, by omega, aNx, s2, L3, ids, S, D, rfl, hM3.keep aKeep aNx, g3, by omega, hQ3.keep (fun x hx => by have h9 : x < n3 := (by rcases List.mem_cons.1 hx with h8 | h8; omega; exact (hids3 x h8).1); exact aSkip), ⟨_, aRow⟩, ⟨_, aRow⟩, hF2, hout3, fun x hx => ⟨by have := (hids3 x hx).1; exact Nat.lt_of_lt_of_le this aNx, (hids3 x hx).2⟩⟩) | fail
  refine Go.loop (fun j : Nat => [(2, .pt 0 1 0 0), (5, .pt L'.m 1 0 0), (7, .sl (n2 + 8) o.cores.length), (8, .sl (n2 + 11) o.cores.length), (14, i64 j)]) (fun j H9 n9 => j ≤ o.cores.length ∧ n ≤ n9 ∧ ∀ b, b < n → getH H9 b = getH H b) (fun j => o.cores.length - j) 0 aLess ⟨Nat.zero_le _, aNx, aKeep⟩ ?_
  rintro j H9 n9 ⟨hj, hn9, hfr⟩
  have hM9 := hM'.keep hfr hn9
  have rD9 := (hfr (n2 + 11) (by omega)).trans rD
  have rO9 := (hfr 0 (by omega)).trans rO
  have hQ9 : QF (n2 + 8) ids S H9 := hQ.keep (fun x hx => hfr x (by rcases List.mem_cons.1 hx with rfl | hx; omega; exact (hids x hx).1))
  have hsc := g.n
  have hSl : (SA S).length = s.cores.length := by simp only [SA, List.length_map]; exact hF.ls
  obtain ⟨dS, rS⟩ := hQ9.row
  have hlS : (qRow ids (SA S)).length = o.cores.length := by rw [hQ9.len, hSl, hsc]
  have hlD : (D.map fun k : Nat => i64 k).length = o.cores.length := by rw [List.length_map, hF.ld, hsc]
  clear hM' rD rO hQ hout hpr
  repeat' (first
      | ((with_reducible refine Go.red ?_); conv => whnf)
      | (with_reducible refine Go.and ?_ ?_)
      | (with_reducible exact True.intro)
      | (with_reducible refine Go.far ?_)
      | ((with_reducible refine Apt.mk ?_); (try dsimp only); omega)
      | ((with_reducible refine Ask.mk ?_); first | exact aAsk | exact aAsk2)
      | ((with_reducible refine Go.ari64 ?_ ?_ ?_); (· exact aBnd); (· exact aBnd))
      | ((with_reducible refine Go.ariu8 ?_ ?_ ?_); (· exact aBnd); (· exact aBnd))
      | (with_reducible refine Go.ari0 ?_)
      | (apply Go.elem; (· exact aElem))
      | (apply Go.row; (· exact aRow))
      | (apply Go.gives; (· exact aGives))
      | (apply Go.gives; (· exact aRes))
      | (with_reducible refine Go.unroll ?_)
      | (refine Go.gt rfl ?_)
      | (refine Go.gf rfl ?_)
      | (with_reducible refine Go.join ?_)
      | (refine Go.lt' rfl ?_)
      | (refine Go.lf' rfl ?_)
      | ((with_reducible refine Go.bool ?_ ?_) <;> intro hc <;> (try simp only [List.length_map, ne_eq, hcs] at hc) <;> try (exfalso; omega))
      | ((with_reducible refine Res.eq ?_ ?_); (· exact aFit)))
  · have hjc : j < o.cores.length := by omega
    have hjs : j < s.cores.length := by omega
    obtain ⟨f1, f2, f3⟩ := hF.q j hjs
    have hbl := congrArg List.length f2
    rw [List.length_drop] at hbl
    have hbo := g.buf j hjs
    have hbu := ok.buffer
    refine Go.callN (view_in (hM9.keep aKeep aNx) hjs (by omega)) ?_
    rintro _ H5 n5 ⟨b', d', rfl, q1, q2, q3, q4, q5⟩
    have hn5 : n9 ≤ n5 := Nat.le_trans aNx q3
    have hb5 : n9 ≤ b' := Nat.le_trans aNx q1
    have q6 : ∀ b, b < n9 → getH H5 b = getH H9 b := fun b hb => (q5 b aNx).trans aSkip
    have q7 : ∀ b, b < n → getH H5 b = getH H b := fun b hb => (q6 b (by omega)).trans (hfr b hb)
    clear hfr
    have rD5 := (q6 (n2 + 11) (by omega)).trans rD9
    have rO5 := (q6 0 (by omega)).trans rO9
    have rS5 := (q6 (n2 + 8) (by omega)).trans rS
    obtain ⟨dj, rj⟩ := hQ9.qs j (by rw [hSl]; exact hjs)
    have hxj := hids _ (getD_mem (l := ids) (q := j) (by rw [hQ9.lens, hSl]; exact hjs))
    have rj5 := (q6 _ (by omega)).trans rj
    rw [SA_get] at rj5
    have hgt : ∀ d, (qRow ids (SA S)).getD j d = .sl (ids.getD j 0) (S.getD j []).length := fun d => by rw [hQ9.get (by rw [hSl]; exact hjs), SA_get, List.length_map]
    have hgD : ∀ d, (D.map fun k : Nat => i64 k).getD j d = i64 (D.getD j 0 : Nat) := fun d => by rw [getD_av _ _ _ _ (by rw [hF.ld]; exact hjs)]; rfl
    have hne := hQ9.ne (q := j) (by rw [hSl]; exact hjs)
    clear q1 q3 q5 rD9 rO9 rS rj
    repeat' (first
        | ((with_reducible refine Go.red ?_); conv => whnf)
        | (with_reducible refine Go.and ?_ ?_)
        | (with_reducible exact True.intro)
        | (with_reducible refine Go.far ?_)
        | ((with_reducible refine Apt.mk ?_); (try dsimp only); omega)
        | ((with_reducible refine Ask.mk ?_); first | exact aAsk | exact aAsk2)
        | ((with_reducible refine Go.ari64 ?_ ?_ ?_); (· exact aBnd); (· exact aBnd))
        | ((with_reducible refine Go.ariu8 ?_ ?_ ?_); (· exact aBnd); (· exact aBnd))
        | (with_reducible refine Go.ari0 ?_)
        | (apply Go.elem; (· (first | exact hgt _ | exact hgD _ | exact aElem)))
        | (apply Go.row; (· exact aRow))
        | (apply Go.gives; (· exact aGives))
        | (apply Go.gives; (· exact aRes))
        | (with_reducible refine Go.unroll ?_)
        | (refine Go.gt rfl ?_)
        | (refine Go.gf rfl ?_)
        | (with_reducible refine Go.join ?_)
        | (refine Go.lt' rfl ?_)
        | (refine Go.lf' rfl ?_)
        | ((with_reducible refine Go.bool ?_ ?_) <;> intro hc <;> (try simp only [List.length_map, ne_eq, hcs] at hc) <;> try (exfalso; omega))
        | ((with_reducible refine Res.eq ?_ ?_); (· exact aFit)))
    · exfalso
      rcases hc with (hc | hc) | hc
      · exact hc trivial
      · omega
      · omega
    · exact ⟨j + 1, by omega, aLess, by omega, aNx, fun b hb => (aSkip : _ = getH H5 b).trans (q7 b hb)⟩
  · exact rfl
end Go.Proofs.Ytliabecchkolgaa
