/- A load sees its core's own latest store there, or what went there last. -/
import Derived.Test.YtliabecchkolgaaVoa
import Derived.Test.YtliabecchkolgaaVu
import Derived.Test.YtliabecchkolgaaVa
namespace Go.Proofs.Ytliabecchkolgaa
open Go Go.Abs Go.Proofs
set_option linter.unusedSimpArgs false
set_option linter.unusedVariables false
def SW (W : List (List DidS)) : List (List AV) := W.map (List.map DidS.av)
theorem SW_get (W : List (List DidS)) (q : Nat) : (SW W).getD q [] = (W.getD q []).map DidS.av := by
  simp only [SW, List.getD, List.getElem?_map]
  cases W[q]? <;> rfl
theorem SW_set (W : List (List DidS)) (q : Nat) (l : List DidS) : SW (W.set q l) = (SW W).set q (l.map DidS.av) := by simp [SW, List.map_set]
theorem QAt_same {te e : TypeId} {sz b : Nat} {ids : List Nat} {S : List (List AV)} {H : Hp} (h : QAt te e sz b ids S H) {H' : Hp} {q : Nat} (hq : q < S.length) (l : List AV)
    (h1 : ∃ d es, getH H' b = some (.row te 1 d es) ∧ es = (qRow ids S).set q (.sl (ids.getD q 0) l.length)) (h2 : ∃ d es, getH H' (ids.getD q 0) = some (.row e sz d es) ∧ es = l)
    (h3 : ∀ j, j < S.length → j ≠ q → ids.getD j 0 ≠ b → ids.getD j 0 ≠ ids.getD q 0 → getH H' (ids.getD j 0) = getH H (ids.getD j 0)) : QAt te e sz b ids (S.set q l) H' := by
  have h4 := h.next hq l (.inl rfl) h1 h2 (fun j a1 a2 a3 a4 _ => h3 j a1 a2 a3 a4)
  have hqb : q < ids.length := by rw [h.lens]; exact hq
  have e : ids.getD q 0 = ids[q] := by simp [List.getD, hqb]
  rw [e, List.set_getElem_self] at h4
  exact h4
theorem tell_suffix {te e : TypeId} {sz b q nx lo : Nat} {ids : List Nat} {S : List (List AV)} {H H0 : Hp} {C : Hp → Nat → Prop} (hQ : QAt te e sz b ids S H0) (hq : q < S.length) (k : Nat) (hk : k ≤ (S.getD q []).length)
    (h1 : ∃ d es, getH H b = some (.row te 1 d es) ∧ es = (qRow ids S).set q (.sv (ids.getD q 0) (S.getD q []).length k ((S.getD q []).length - k)))
    (h3 : ∀ j, j < S.length → ids.getD j 0 ≠ b → ids.getD j 0 ∈ ids → getH H (ids.getD j 0) = getH H0 (ids.getD j 0)) (hlt : ∀ x ∈ b :: ids, x < lo) (hlo : lo ≤ nx)
    (hC : ∀ H2 m, lo ≤ m → QAt te e sz b (ids.set q m) (S.set q ((S.getD q []).drop k)) H2 → (∀ y, y < lo → y ≠ b → y ≠ ids.getD q 0 → getH H2 y = getH H y) → C H2 (m + 1)) : ∃ H2 nx2, Wk .any H nx .any H2 nx2 ∧ C H2 nx2 := by
  obtain ⟨d, es, h1, he⟩ := h1
  obtain ⟨d2, h2⟩ := hQ.qs q hq
  have hmem := getD_mem (l := ids) (q := q) (by rw [hQ.lens]; exact hq)
  have hne := hQ.ne hq
  have hl : es.length = S.length := by rw [he, List.length_set, hQ.len]
  have hx := hlt _ (List.mem_cons_of_mem b hmem)
  have hb := hlt b (by simp)
  have h2' := (h3 q hq hne.symm hmem).trans h2
  have hfr : ∀ y, y < lo → y ≠ b → y ≠ ids.getD q 0 → getH ((nx, some (.row e sz .any ((S.getD q []).drop k))) :: (ids.getD q 0, none) :: (b, some (.row te 1 .any (es.set q (.sl nx ((S.getD q []).length - k))))) :: H) y = getH H y := fun y m1 m2 m3 => by
    rw [getH_skipEq (by omega), getH_skipEq m3, getH_skipEq m2]
  refine ⟨_, _, Wk.suffix (lo := k) (n := (S.getD q []).length - k) h1 (q := q) (by rw [hl]; exact hq) (by rw [he, getD_set_self (by rw [hQ.len]; exact hq)]) h2' rfl (by omega) hne.symm, hC _ nx hlo (hQ.next hq _ (.inr fun hm => by have := hlt _ hm; omega) ⟨_, _, getH_skip (by omega) (getH_skip hne (getH_here _ _ _)), ?_⟩ ⟨_, _, getH_here _ _ _, rfl⟩ (fun j hj hjq m1 m2 m3 => ?_)) hfr⟩
  · rw [he, List.set_set, List.length_drop]
  · have hjm := getD_mem (l := ids) (q := j) (by rw [hQ.lens]; exact hj)
    rw [hfr _ (hlt _ (List.mem_cons_of_mem b hjm)) m1 m2]
    exact h3 j hj m1 hjm
abbrev QW (b : Nat) (ids : List Nat) (W : List (List DidS)) (H : Hp) : Prop := QAt 47 33 7 b ids (SW W) H
set_option maxHeartbeats 20000000 in
set_option maxRecDepth 200000 in
theorem order_pure {o : Obj} (ho : o.Wf) (h : objOk o = true) (l : List StepV) (hl : l.length * 24 + 48 ≤ 140737488355328) : Pure Try.prog 4 [o.av, .im 2 .any (l.map StepV.av)] (fun r => r = bl true) := by
  refine Go.pure Try.func4 nm4 low4 res4 nt4 rfl ?_
  repeat' (first
    | ((with_reducible refine Go.red ?_); conv => whnf)
    | (with_reducible refine Go.and ?_ ?_)
    | (with_reducible exact True.intro)
    | (with_reducible refine Go.far ?_)
    | ((with_reducible refine Apt.mk ?_); (try dsimp only); omega)
    | ((with_reducible refine Ask.mk ?_); first | exact aAsk | exact aAsk2)
    | ((with_reducible refine Go.ari64 ?_ ?_ ?_); (· exact aBnd); (· exact aBnd))
    | ((with_reducible refine Go.ariu8 ?_ ?_ ?_); (· exact aBnd); (· exact aBnd))
    | (with_reducible refine Go.ari0 ?_)
    | (apply Go.elem; (· exact aElem))
    | (apply Go.row; (· exact aRow))
    | (apply Go.gives; (· exact aGives))
    | (apply Go.gives; (· exact aRes))
    | (with_reducible refine Go.unroll ?_)
    | ((with_reducible refine Go.callW (begins_pure) ?_ ?_); (· exact aFit))
    | ((with_reducible refine Go.callJ (fun _ => begins_pure) ?_ ?_); (· exact aFit))
    | ((with_reducible refine Go.callE (begins_pure) ?_ ?_); (· exact aFit))
    | ((with_reducible refine Go.callF (fun _ => begins_pure) ?_ ?_); (· exact aFit))
    | (refine Go.gt rfl ?_)
    | (refine Go.gf rfl ?_)
    | (with_reducible refine Go.join ?_)
    | (refine Go.lt' rfl ?_)
    | (refine Go.lf' rfl ?_)
    | ((with_reducible refine Go.bool ?_ ?_) <;> intro hc <;> (try simp only [List.length_map, ne_eq, hcs] at hc) <;> try (exfalso; omega))
    | ((with_reducible refine Res.eq ?_ ?_); (· exact aFit)))
  refine Go.callN (made_ok ho h) ?_
  rintro _ H2 n2 ⟨L, rfl, hM, h1, h2, h3⟩
  have ok := objOk_ok h
  have hcl : (initM o).cores.length = o.cores.length := by simp [initM]
  have hc8 := ok.cores
  have hml := ok.mem
  have e0 : getH H2 0 = some (.row 25 5 .any [o.av]) := (h3 0 (by omega)).trans rfl
  have hn4 : 4 ≤ n2 := by omega
  have hLlt := hM.lt
  clear h3
  repeat' (first
    | ((with_reducible refine Go.red ?_); conv => whnf)
    | (with_reducible refine Go.and ?_ ?_)
    | (with_reducible exact True.intro)
    | (with_reducible refine Go.far ?_)
    | ((with_reducible refine Apt.mk ?_); (try dsimp only); omega)
    | ((with_reducible refine Ask.mk ?_); first | exact aAsk | exact aAsk2)
    | ((with_reducible refine Go.ari64 ?_ ?_ ?_); (· exact aBnd); (· exact aBnd))
    | ((with_reducible refine Go.ariu8 ?_ ?_ ?_); (· exact aBnd); (· exact aBnd))
    | (with_reducible refine Go.ari0 ?_)
    | (apply Go.elem; (· exact aElem))
    | (apply Go.row; (· exact aRow))
    | (apply Go.gives; (· exact aGives))
    | (apply Go.gives; (· exact aRes))
    | (with_reducible refine Go.unroll ?_)
    | ((refine Go.lookW (hcl ▸ cores_call (hM.keep aKeep aNx)) ?_ ?_); (· exact True.intro))
    | ((refine Go.lookJ (fun _ => hcl ▸ cores_call (hM.keep aKeep aNx)) ?_ ?_); (· exact True.intro))
    | (refine Go.gt rfl ?_)
    | (refine Go.gf rfl ?_)
    | (with_reducible refine Go.join ?_)
    | (refine Go.lt' rfl ?_)
    | (refine Go.lf' rfl ?_)
    | ((with_reducible refine Go.bool ?_ ?_) <;> intro hc <;> (try simp only [List.length_map, ne_eq, hcs] at hc) <;> try (exfalso; omega))
    | ((with_reducible refine Res.eq ?_ ?_); (· exact aFit)))
  refine Go.loopT (fun i : Nat => [(1, .im 2 .any (l.map StepV.av)), (5, .pt L.m 1 0 0), (7, .sl (n2 + 7) o.mem.length), (8, .sl (n2 + 13) o.cores.length), (9, i64 i)])
    (fun i H n => i ≤ l.length ∧ n2 + 16 ≤ n ∧ ∃ s L' ids W, L'.m = L.m ∧ MAt o s L' H n ∧ Good o s ∧ s.prints.length ≤ i ∧ QW (n2 + 13) ids W H ∧ (∃ d, getH H (n2 + 7) = some (.row 2 1 d (s.mem.map i64))) ∧ Ord s W ∧
      (∀ x ∈ L'.ids, x ≠ n2 + 7 ∧ x ∉ (n2 + 13) :: ids) ∧ (∀ x ∈ ids, x < n ∧ n2 + 16 ≤ x))
    (fun i => l.length - i) 0 aLess ⟨_, _, Wk.born (te := 47) (e := 33) (sz := 7) (b := n2 + 13) (n := o.cores.length) aNx (by omega) aRow, Nat.zero_le _, aNx, initM o, L, (List.range o.cores.length).map (n2 + 16 + ·), List.replicate o.cores.length [], rfl,
      hM.keep (fun b hb => (bornH_at aNx (by omega)).trans aSkip) aNx, good_init ok, Nat.zero_le _, ?_, ⟨_, (bornH_at aNx (by omega)).trans aRow⟩, Ord.init o, fun x hx => ?_, fun x hx => ?_⟩ ?_
  · show QAt _ _ 7 _ _ (SW (List.replicate o.cores.length [])) _
    rw [show SW (List.replicate o.cores.length []) = List.replicate o.cores.length [] by simp [SW]]
    exact QAt.born aNx
  · have h4 := hLlt x hx
    refine ⟨by omega, ?_⟩
    simp only [List.mem_cons, List.mem_map, List.mem_range, not_or, not_exists, not_and]
    exact ⟨by omega, fun i hi => by omega⟩
  · simp only [List.mem_map, List.mem_range] at hx
    obtain ⟨i, hi, rfl⟩ := hx
    exact ⟨by omega, by omega⟩
  rintro i H n ⟨hi, hn, s, L', ids, W, hLm, hM', g, hpr, hQ, ⟨dD, rD⟩, hF, hout, hids⟩
  rw [← hLm]
  clear hM h2 e0 h1 hLlt
  repeat' (first
      | ((with_reducible refine Go.red ?_); conv => whnf)
      | (with_reducible refine Go.and ?_ ?_)
      | (with_reducible exact True.intro)
      | (with_reducible refine Go.far ?_)
      | ((with_reducible refine Apt.mk ?_); (try dsimp only); omega)
      | ((with_reducible refine Ask.mk ?_); first | exact aAsk | exact aAsk2)
      | ((with_reducible refine Go.ari64 ?_ ?_ ?_); (· exact aBnd); (· exact aBnd))
      | ((with_reducible refine Go.ariu8 ?_ ?_ ?_); (· exact aBnd); (· exact aBnd))
      | (with_reducible refine Go.ari0 ?_)
      | (apply Go.elem; (· exact aElem))
      | (apply Go.row; (· exact aRow))
      | (apply Go.gives; (· exact aGives))
      | (apply Go.gives; (· exact aRes))
      | (with_reducible refine Go.unroll ?_)
      | (refine Go.gt rfl ?_)
      | (refine Go.gf rfl ?_)
      | (with_reducible refine Go.join ?_)
      | (refine Go.lt' rfl ?_)
      | (refine Go.lf' rfl ?_)
      | ((with_reducible refine Go.bool ?_ ?_) <;> intro hc <;> (try simp only [List.length_map, ne_eq, hcs] at hc) <;> try (exfalso; omega))
      | ((with_reducible refine Res.eq ?_ ?_); (· exact aFit)))
  · refine Go.callN (step_call (hM'.keep aKeep aNx) g ok (by omega) (l.getD i default).kind (l.getD i default).core) ?_
    rintro _ H3 n3 ⟨rfl, hn3, ⟨L3, hM3, hmv⟩, hfr3⟩
    have hn6 : n ≤ n3 := Nat.le_trans aNx hn3
    have fr3 : ∀ b, b < n → b ∉ L'.ids → getH H3 b = getH H b := fun b hb hbo => (hfr3 b aNx hbo).trans aSkip
    have hid3 : ∀ b, b ∈ L3.ids → b ∈ L'.ids ∨ n ≤ b := fun b hb => (hmv.ids b hb).imp id (fun hh => Nat.le_trans aNx hh)
    have hmm := hmv.m
    clear hfr3 hmv hn3
    have hQ3 : QW (n2 + 13) ids W H3 := hQ.keep (fun x hx => fr3 x (by rcases List.mem_cons.1 hx with rfl | hx; omega; exact (hids x hx).1) (fun hm => (hout x hm).2 hx))
    have rD3 := (fr3 (n2 + 7) (by omega) (fun hm => (hout _ hm).1 rfl)).trans rD
    have hout3 : ∀ x ∈ L3.ids, x ≠ n2 + 7 ∧ x ∉ (n2 + 13) :: ids := fun x hx => (hid3 x hx).elim (hout x) (fun hh => ⟨by omega, fun hm => by rcases List.mem_cons.1 hm with h8 | h8; omega; have := (hids x h8).1; omega⟩)
    have hids3 : ∀ x ∈ ids, x < n3 ∧ n2 + 16 ≤ x := fun x hx => ⟨by have := (hids x hx).1; omega, (hids x hx).2⟩
    have hS := step_does g ok (l.getD i default).kind (l.getD i default).core
    have g3 := g.step ok (l.getD i default).kind (l.getD i default).core
    have hp3 := prints_step o s (l.getD i default).kind (l.getD i default).core
    have hl3 := does_len g ok (l.getD i default).kind (l.getD i default).core
    rw [← hmm]
    clear hM' hQ rD hout hids fr3 hid3
    generalize stepS o s (l.getD i default).kind (l.getD i default).core = r3 at *
    cases hS with
    | bad e he =>
      simp only at hM3 g3 hp3 ⊢
      repeat' (first
          | ((with_reducible refine Go.red ?_); conv => whnf)
          | (with_reducible refine Go.and ?_ ?_)
          | (with_reducible exact True.intro)
          | (with_reducible refine Go.far ?_)
          | ((with_reducible refine Apt.mk ?_); (try dsimp only); omega)
          | ((with_reducible refine Ask.mk ?_); first | exact aAsk | exact aAsk2)
          | ((with_reducible refine Go.ari64 ?_ ?_ ?_); (· exact aBnd); (· exact aBnd))
          | ((with_reducible refine Go.ariu8 ?_ ?_ ?_); (· exact aBnd); (· exact aBnd))
          | (with_reducible refine Go.ari0 ?_)
          | (apply Go.elem; (· exact aElem))
          | (apply Go.row; (· exact aRow))
          | (apply Go.gives; (· exact aGives))
          | (apply Go.gives; (· exact aRes))
          | (with_reducible refine Go.unroll ?_)
          | (refine Go.gt rfl ?_)
          | (refine Go.gf rfl ?_)
          | (with_reducible refine Go.join ?_)
          | (refine Go.lt' rfl ?_)
          | (refine Go.lf' rfl ?_)
          | ((with_reducible refine Go.bool ?_ ?_) <;> intro hc <;> (try simp only [List.length_map, ne_eq, hcs] at hc) <;> try (exfalso; omega))
          | ((with_reducible refine Res.eq ?_ ?_); (· exact aFit)))
      exact ⟨i + 1, by omega, aLess, _, _, Wk.refl _ _ _, by omega, aNx, s, L3, ids, W, rfl, hM3.keep aKeep aNx, g3, by omega, hQ3.keep (fun x hx => by have h9 : x < n3 := (by rcases List.mem_cons.1 hx with h8 | h8; omega; exact (hids3 x h8).1); exact aSkip), ⟨_, aRow⟩, hF, hout3, fun x hx => ⟨by have := (hids3 x hx).1; exact Nat.lt_of_lt_of_le this aNx, (hids3 x hx).2⟩⟩
    | idle hk =>
      simp only at hM3 g3 hp3 ⊢
      repeat' (first
          | ((with_reducible refine Go.red ?_); conv => whnf)
          | (with_reducible refine Go.and ?_ ?_)
          | (with_reducible exact True.intro)
          | (with_reducible refine Go.far ?_)
          | ((with_reducible refine Apt.mk ?_); (try dsimp only); omega)
          | ((with_reducible refine Ask.mk ?_); first | exact aAsk | exact aAsk2)
          | ((with_reducible refine Go.ari64 ?_ ?_ ?_); (· exact aBnd); (· exact aBnd))
          | ((with_reducible refine Go.ariu8 ?_ ?_ ?_); (· exact aBnd); (· exact aBnd))
          | (with_reducible refine Go.ari0 ?_)
          | (apply Go.elem; (· exact aElem))
          | (apply Go.row; (· exact aRow))
          | (apply Go.gives; (· exact aGives))
          | (apply Go.gives; (· exact aRes))
          | (with_reducible refine Go.unroll ?_)
          | (refine Go.gt rfl ?_)
          | (refine Go.gf rfl ?_)
          | (with_reducible refine Go.join ?_)
          | (refine Go.lt' rfl ?_)
          | (refine Go.lf' rfl ?_)
          | ((with_reducible refine Go.bool ?_ ?_) <;> intro hc <;> (try simp only [List.length_map, ne_eq, hcs] at hc) <;> try (exfalso; omega))
          | ((with_reducible refine Res.eq ?_ ?_); (· exact aFit)))
      exact ⟨i + 1, by omega, aLess, _, _, Wk.refl _ _ _, by omega, aNx, s, L3, ids, W, rfl, hM3.keep aKeep aNx, g3, by omega, hQ3.keep (fun x hx => by have h9 : x < n3 := (by rcases List.mem_cons.1 hx with h8 | h8; omega; exact (hids3 x h8).1); exact aSkip), ⟨_, aRow⟩, hF, hout3, fun x hx => ⟨by have := (hids3 x hx).1; exact Nat.lt_of_lt_of_le this aNx, (hids3 x hx).2⟩⟩
    | does q hq d s2 hd =>
      simp only at hM3 g3 hp3 hl3 ⊢
      have hlt := hd.lt
      have hcr := hd.core
      have hkd := hd.kind
      have had := hd.addr
      have hsc := g.n
      have hsm := g.mem
      obtain ⟨dS, rS⟩ := hQ3.row
      have hSl : (SW W).length = s.cores.length := by simp only [SW, List.length_map]; exact hF.lw
      obtain ⟨dq, rq⟩ := hQ3.qs q (by rw [hSl]; exact hlt)
      rw [SW_get] at rq
      have hlS : (qRow ids (SW W)).length = o.cores.length := by rw [hQ3.len, hSl, hsc]
      have hgt : ∀ d, (qRow ids (SW W)).getD q d = .sl (ids.getD q 0) (W.getD q []).length := fun d => by rw [hQ3.get (by rw [hSl]; exact hlt), SW_get, List.length_map]
      have hxq := hids3 _ (getD_mem (l := ids) (q := q) (by rw [hQ3.lens, hSl]; exact hlt))
      have hne := hQ3.ne (q := q) (by rw [hSl]; exact hlt)
      have hlM : (s.mem.map i64).length = o.mem.length := by rw [List.length_map, hsm]
      have hWb : (W.getD q []).length < 1000 := by
        have h1 := g.buf q hlt
        have h2 := ok.buffer
        rw [hF.q q hlt, List.length_map] at h1; omega
      by_cases k2 : d.kind = 2
      · have hF2 := hF.keep hd hl3 (by omega) (by omega)
        have hL := hF.load hd k2
        have hm2 := hd.mem
        rw [if_neg (by omega), if_neg (by omega)] at hm2
        have hadr := had (by omega)
        clear hd
        obtain ⟨kind, cr, pc, addr, word, put, own⟩ := d
        simp only at hcr k2 hL hadr ⊢
        subst hcr k2
        repeat' (first
            | ((with_reducible refine Go.red ?_); conv => whnf)
            | (with_reducible refine Go.and ?_ ?_)
            | (with_reducible exact True.intro)
            | (with_reducible refine Go.far ?_)
            | ((with_reducible refine Apt.mk ?_); (try dsimp only); omega)
            | ((with_reducible refine Ask.mk ?_); first | exact aAsk | exact aAsk2)
            | ((with_reducible refine Go.ari64 ?_ ?_ ?_); (· exact aBnd); (· exact aBnd))
            | ((with_reducible refine Go.ariu8 ?_ ?_ ?_); (· exact aBnd); (· exact aBnd))
            | (with_reducible refine Go.ari0 ?_)
            | (apply Go.elem; (· (first | exact hgt _ | exact aElem)))
            | (apply Go.row; (· exact aRow))
            | (apply Go.gives; (· exact aGives))
            | (apply Go.gives; (· exact aRes))
            | (with_reducible refine Go.unroll ?_)
            | (refine Go.gt rfl ?_)
            | (refine Go.gf rfl ?_)
            | (with_reducible refine Go.join ?_)
            | (refine Go.lt' rfl ?_)
            | (refine Go.lf' rfl ?_)
            | ((with_reducible refine Go.bool ?_ ?_) <;> intro hc <;> (try simp only [List.length_map, ne_eq, hcs] at hc) <;> try (exfalso; omega))
            | ((with_reducible refine Res.eq ?_ ?_); (· exact aFit)))
        refine Go.loop (fun p : Nat × Int × Bool => [(1, .im 2 .any (l.map StepV.av)), (5, .pt L3.m 1 0 0), (7, .sl (n2 + 7) o.mem.length), (8, .sl (n2 + 13) o.cores.length), (9, i64 i), (10, .pt (n3 + 3) 1 0 0), (12, i64 p.2.1), (13, bl p.2.2), (14, i64 p.1)])
          (fun p H9 n9 => p.1 ≤ (W.getD q []).length ∧ n3 + 4 ≤ n9 ∧ (∃ d9, getH H9 (n3 + 3) = some (.row 33 7 d9 [DidS.av ⟨2, q, pc, addr, word, put, own⟩])) ∧ (∀ b, b < n3 → getH H9 b = getH H3 b) ∧ seenW addr ((W.getD q []).drop p.1) p.2 = seenW addr (W.getD q []) (s.mem.getD addr.toNat 0, false))
          (fun p => (W.getD q []).length - p.1) (0, s.mem.getD addr.toNat 0, false) aLess ⟨Nat.zero_le _, aNx, ⟨_, aRow⟩, fun b hb => aSkip, rfl⟩ ?_
        rintro ⟨k, w, ow⟩ H9 n9 ⟨hk, hn9, ⟨d9, rd9⟩, hfr9, hsn⟩
        simp only at hk hsn
        have rS9 := (hfr9 (n2 + 13) (by omega)).trans rS
        have rq9 := (hfr9 (ids.getD q 0) (by omega)).trans rq
        have rD9 := (hfr9 (n2 + 7) (by omega)).trans rD3
        have hM9 : MAt o s2 L3 H9 n9 := hM3.keep hfr9 (by omega)
        have hQ9 : QW (n2 + 13) ids W H9 := hQ3.keep (fun x hx => hfr9 x (by rcases List.mem_cons.1 hx with h8 | h8; omega; exact (hids3 x h8).1))
        clear rS rq rD3 hM3 hQ3
        repeat' (first
            | ((with_reducible refine Go.red ?_); conv => whnf)
            | (with_reducible refine Go.and ?_ ?_)
            | (with_reducible exact True.intro)
            | (with_reducible refine Go.far ?_)
            | ((with_reducible refine Apt.mk ?_); (try dsimp only); omega)
            | ((with_reducible refine Ask.mk ?_); first | exact aAsk | exact aAsk2)
            | ((with_reducible refine Go.ari64 ?_ ?_ ?_); (· exact aBnd); (· exact aBnd))
            | ((with_reducible refine Go.ariu8 ?_ ?_ ?_); (· exact aBnd); (· exact aBnd))
            | (with_reducible refine Go.ari0 ?_)
            | (apply Go.elem; (· (first | exact hgt _ | exact aElem)))
            | (apply Go.row; (· exact aRow))
            | (apply Go.gives; (· exact aGives))
            | (apply Go.gives; (· exact aRes))
            | (with_reducible refine Go.unroll ?_)
            | (refine Go.gt rfl ?_)
            | (refine Go.gf rfl ?_)
            | (with_reducible refine Go.join ?_)
            | (refine Go.lt' rfl ?_)
            | (refine Go.lf' rfl ?_)
            | ((with_reducible refine Go.bool ?_ ?_) <;> intro hc <;> (try simp only [List.length_map, ne_eq, hcs] at hc) <;> try (exfalso; omega))
            | ((with_reducible refine Res.eq ?_ ?_); (· exact aFit)))
        · refine ⟨(k + 1, ((W.getD q []).getD k default).word, true), by show (W.getD q []).length - (k + 1) < (W.getD q []).length - k; omega, aLess, by show k + 1 ≤ _; omega, aNx, ⟨_, aRow⟩, fun b hb => (aSkip : _ = getH H9 b).trans (hfr9 b hb), ?_⟩
          rw [← hsn, drop_cons (show k < (W.getD q []).length by omega), seenW, if_pos hc]
        · refine ⟨(k + 1, w, ow), by show (W.getD q []).length - (k + 1) < (W.getD q []).length - k; omega, aLess, by show k + 1 ≤ _; omega, aNx, ⟨_, aRow⟩, fun b hb => (aSkip : _ = getH H9 b).trans (hfr9 b hb), ?_⟩
          rw [← hsn, drop_cons (show k < (W.getD q []).length by omega), seenW, if_neg hc]
        all_goals have hend : (w, ow) = (word, own) := by rw [hL, ← hsn, List.drop_eq_nil_of_le (by omega), seenW]
        · obtain ⟨rfl, rfl⟩ := Prod.mk.inj hend
          exact absurd hc (by simp)
        · exact ⟨i + 1, by omega, aLess, _, _, Wk.refl _ _ _, by omega, aNx, s2, L3, ids, W, rfl, hM9.keep aKeep aNx, g3, by omega, hQ9.keep (fun x hx => by have h9 : x < n9 := (by rcases List.mem_cons.1 hx with h8 | h8; omega; have := (hids3 x h8).1; omega); exact aSkip), ⟨_, (by rw [hm2]; exact aRow)⟩, hF2, hout3, fun x hx => ⟨by have h9 : x < n9 := (by have := (hids3 x hx).1; omega); exact Nat.lt_of_lt_of_le h9 aNx, (hids3 x hx).2⟩⟩
      by_cases k3 : d.kind = 3
      · have hF2 := hF.store hd hl3 k3
        have hm2 := hd.mem
        rw [if_neg (by omega), if_neg (by omega)] at hm2
        clear hd
        obtain ⟨kind, cr, pc, addr, word, put, own⟩ := d
        simp only at hcr k3 hF2 ⊢
        subst hcr k3
        repeat' (first
            | ((with_reducible refine Go.red ?_); conv => whnf)
            | (with_reducible refine Go.and ?_ ?_)
            | (with_reducible exact True.intro)
            | (with_reducible refine Go.far ?_)
            | ((with_reducible refine Apt.mk ?_); (try dsimp only); omega)
            | ((with_reducible refine Ask.mk ?_); first | exact aAsk | exact aAsk2)
            | ((with_reducible refine Go.ari64 ?_ ?_ ?_); (· exact aBnd); (· exact aBnd))
            | ((with_reducible refine Go.ariu8 ?_ ?_ ?_); (· exact aBnd); (· exact aBnd))
            | (with_reducible refine Go.ari0 ?_)
            | (apply Go.elem; (· (first | exact hgt _ | exact aElem)))
            | (apply Go.row; (· exact aRow))
            | (apply Go.gives; (· exact aGives))
            | (apply Go.gives; (· exact aRes))
            | (with_reducible refine Go.unroll ?_)
            | (refine Go.gt rfl ?_)
            | (refine Go.gf rfl ?_)
            | (with_reducible refine Go.join ?_)
            | (refine Go.lt' rfl ?_)
            | (refine Go.lf' rfl ?_)
            | ((with_reducible refine Go.bool ?_ ?_) <;> intro hc <;> (try simp only [List.length_map, ne_eq, hcs] at hc) <;> try (exfalso; omega))
            | ((with_reducible refine Res.eq ?_ ?_); (· exact aFit)))
        refine ⟨i + 1, by omega, aLess, _, _, Wk.refl _ _ _, by omega, aNx, s2, L3, ids, W.set q (W.getD q [] ++ [⟨3, q, pc, addr, word, put, own⟩]), rfl, hM3.keepIds (fun x hx => ?_) aNx, g3, by omega, ?_, ⟨_, (by rw [hm2]; exact aRow)⟩, hF2, hout3, fun x hx => ⟨by have := (hids3 x hx).1; exact Nat.lt_of_lt_of_le this aNx, (hids3 x hx).2⟩⟩
        · have h9 := hM3.lt x hx
          have h10 := (hout3 x hx).2
          simp only [List.mem_cons, not_or] at h10
          have h11 : x ≠ ids.getD q 0 := fun he => h10.2 (he ▸ getD_mem (by rw [hQ3.lens, hSl]; exact hlt))
          have h12 := h10.1
          exact aSkip
        · show QAt _ _ 7 _ _ (SW _) _
          rw [SW_set]
          refine QAt_same hQ3 (by rw [hSl]; exact hlt) _ ⟨_, _, aRow, (by simp)⟩ ⟨_, _, aRow, (by rw [List.map_append]; rfl)⟩ (fun j hj m1 m2 m3 => ?_)
          have h9 := hids3 _ (getD_mem (l := ids) (q := j) (by rw [hQ3.lens]; exact hj))
          exact aSkip
      by_cases k8 : d.kind = 8
      · obtain ⟨hpos, hF2⟩ := hF.drain hd hl3 k8
        have hm2 := hd.mem
        rw [if_neg (by omega), if_pos k8] at hm2
        have hadr := had (by omega)
        clear hd
        obtain ⟨kind, cr, pc, addr, word, put, own⟩ := d
        simp only at hcr k8 hF2 hm2 hadr ⊢
        subst hcr k8
        repeat' (first
            | ((with_reducible refine Go.red ?_); conv => whnf)
            | (with_reducible refine Go.and ?_ ?_)
            | (with_reducible exact True.intro)
            | (with_reducible refine Go.far ?_)
            | ((with_reducible refine Apt.mk ?_); (try dsimp only); omega)
            | ((with_reducible refine Ask.mk ?_); first | exact aAsk | exact aAsk2)
            | ((with_reducible refine Go.ari64 ?_ ?_ ?_); (· exact aBnd); (· exact aBnd))
            | ((with_reducible refine Go.ariu8 ?_ ?_ ?_); (· exact aBnd); (· exact aBnd))
            | (with_reducible refine Go.ari0 ?_)
            | (apply Go.elem; (· (first | exact hgt _ | exact aElem)))
            | (apply Go.row; (· exact aRow))
            | (apply Go.gives; (· exact aGives))
            | (apply Go.gives; (· exact aRes))
            | (with_reducible refine Go.unroll ?_)
            | (refine Go.gt rfl ?_)
            | (refine Go.gf rfl ?_)
            | (with_reducible refine Go.join ?_)
            | (refine Go.lt' rfl ?_)
            | (refine Go.lf' rfl ?_)
            | ((with_reducible refine Go.bool ?_ ?_) <;> intro hc <;> (try simp only [List.length_map, ne_eq, hcs] at hc) <;> try (exfalso; omega))
            | ((with_reducible refine Res.eq ?_ ?_); (· exact aFit)))
        refine ⟨i + 1, by omega, aLess, tell_suffix (lo := n3 + 4) (q := q) hQ3 (by rw [hSl]; exact hlt) 1 (by rw [SW_get, List.length_map]; exact hpos) ⟨_, _, aRow, ?_⟩ (fun j hj m1 m2 => ?_) (fun x hx => ?_) aNx (fun H4 m hm hQ4 hk4 => ?_)⟩
        · rw [SW_get, List.length_map]; rfl
        · have h9 := hids3 _ m2
          exact aSkip
        · rcases List.mem_cons.1 hx with h8 | h8
          · omega
          · have := (hids3 x h8).1; omega
        · have e9 : (SW W).set q (((SW W).getD q []).drop 1) = SW (W.set q ((W.getD q []).drop 1)) := by rw [SW_set, SW_get, List.map_drop]
          rw [e9] at hQ4
          refine ⟨by omega, by omega, s2, L3, ids.set q m, W.set q ((W.getD q []).drop 1), rfl, hM3.keepIds (fun x hx => ?_) (by omega), g3, by omega, hQ4, ⟨_, (hk4 _ (by omega) (by omega) (by omega)).trans (by rw [hm2, List.map_set]; exact aRow)⟩, hF2, fun x hx => ?_, fun x hx => ?_⟩
          · have h9 := hM3.lt x hx
            have h10 := (hout3 x hx).2
            have h13 := (hout3 x hx).1
            simp only [List.mem_cons, not_or] at h10
            have h11 : x ≠ ids.getD q 0 := fun he => h10.2 (he ▸ getD_mem (by rw [hQ3.lens, hSl]; exact hlt))
            have h12 := h10.1
            exact (hk4 x (by omega) h12 h11).trans aSkip
          · have h9 := hM3.lt x hx
            have h10 := hout3 x hx
            refine ⟨h10.1, fun hm9 => ?_⟩
            simp only [List.mem_cons, not_or] at h10 hm9
            rcases hm9 with hm9 | hm9
            · exact h10.2.1 hm9
            · rcases List.mem_or_eq_of_mem_set hm9 with hm9 | hm9
              · exact h10.2.2 hm9
              · omega
          · rcases List.mem_or_eq_of_mem_set hx with hx | hx
            · have := hids3 x hx; omega
            · omega
      by_cases k4 : d.kind = 4
      · have hF2 := hF.keep hd hl3 (by omega) (by omega)
        have hm2 := hd.mem
        rw [if_pos k4] at hm2
        have hsw := hd.swap k4
        have hadr := had (by omega)
        clear hd
        obtain ⟨kind, cr, pc, addr, word, put, own⟩ := d
        simp only at hcr k4 hF2 hm2 hsw hadr ⊢
        subst hcr k4
        repeat' (first
            | ((with_reducible refine Go.red ?_); conv => whnf)
            | (with_reducible refine Go.and ?_ ?_)
            | (with_reducible exact True.intro)
            | (with_reducible refine Go.far ?_)
            | ((with_reducible refine Apt.mk ?_); (try dsimp only); omega)
            | ((with_reducible refine Ask.mk ?_); first | exact aAsk | exact aAsk2)
            | ((with_reducible refine Go.ari64 ?_ ?_ ?_); (· exact aBnd); (· exact aBnd))
            | ((with_reducible refine Go.ariu8 ?_ ?_ ?_); (· exact aBnd); (· exact aBnd))
            | (with_reducible refine Go.ari0 ?_)
            | (apply Go.elem; (· (first | exact hgt _ | exact aElem)))
            | (apply Go.row; (· exact aRow))
            | (apply Go.gives; (· exact aGives))
            | (apply Go.gives; (· exact aRes))
            | (with_reducible refine Go.unroll ?_)
            | (refine Go.gt rfl ?_)
            | (refine Go.gf rfl ?_)
            | (with_reducible refine Go.join ?_)
            | (refine Go.lt' rfl ?_)
            | (refine Go.lf' rfl ?_)
            | ((with_reducible refine Go.bool ?_ ?_) <;> intro hc <;> (try simp only [List.length_map, ne_eq, hcs] at hc) <;> try (exfalso; omega))
            | ((with_reducible refine Res.eq ?_ ?_); (· exact aFit)))
        · exact absurd hsw.symm hc
        refine ⟨i + 1, by omega, aLess, _, _, Wk.refl _ _ _, by omega, aNx, s2, L3, ids, W, rfl, hM3.keepIds (fun x hx => ?_) aNx, g3, by omega, hQ3.keep (fun x hx => ?_), ⟨_, (by rw [hm2, List.map_set]; exact aRow)⟩, hF2, hout3, fun x hx => ⟨by have := (hids3 x hx).1; exact Nat.lt_of_lt_of_le this aNx, (hids3 x hx).2⟩⟩
        · have h9 := hM3.lt x hx
          have h10 := (hout3 x hx).1
          exact aSkip
        · have h9 : x < n3 := (by rcases List.mem_cons.1 hx with h8 | h8; omega; exact (hids3 x h8).1)
          have h10 : x ≠ n2 + 7 := (by rcases List.mem_cons.1 hx with h8 | h8; omega; have := (hids3 x h8).2; omega)
          exact aSkip
      have hF2 := hF.keep hd hl3 k3 k8
      have hm2 := hd.mem
      rw [if_neg k4, if_neg k8] at hm2
      clear hd had
      obtain ⟨kind, cr, pc, addr, word, put, own⟩ := d
      simp only at hcr k2 k3 k4 k8 hF2 ⊢
      subst hcr
      rw [← hm2] at rD3
      repeat' (first
          | ((with_reducible refine Go.red ?_); conv => whnf)
          | (with_reducible refine Go.and ?_ ?_)
          | (with_reducible exact True.intro)
          | (with_reducible refine Go.far ?_)
          | ((with_reducible refine Apt.mk ?_); (try dsimp only); omega)
          | ((with_reducible refine Ask.mk ?_); first | exact aAsk | exact aAsk2)
          | ((with_reducible refine Go.ari64 ?_ ?_ ?_); (· exact aBnd); (· exact aBnd))
          | ((with_reducible refine Go.ariu8 ?_ ?_ ?_); (· exact aBnd); (· exact aBnd))
          | (with_reducible refine Go.ari0 ?_)
          | (apply Go.elem; (· (first | exact hgt _ | exact aElem)))
          | (apply Go.row; (· exact aRow))
          | (apply Go.gives; (· exact aGives))
          | (apply Go.gives; (· exact aRes))
          | (with_reducible refine Go.unroll ?_)
          | (refine Go.gt rfl ?_)
          | (refine Go.gf rfl ?_)
          | (with_reducible refine Go.join ?_)
          | (refine Go.lt' rfl ?_)
          | (refine Go.lf' rfl ?_)
          | ((with_reducible refine Go.bool ?_ ?_) <;> intro hc <;> (try simp only [List.length_map, ne_eq, hcs] at hc) <;> try (exfalso; omega))
          | ((with_reducible refine Res.eq ?_ ?_); (· exact aFit)))
      exact ⟨i + 1, by omega, aLess, _, _, Wk.refl _ _ _, by omega, aNx, s2, L3, ids, W, rfl, hM3.keep aKeep aNx, g3, by omega, hQ3.keep (fun x hx => by have h9 : x < n3 := (by rcases List.mem_cons.1 hx with h8 | h8; omega; exact (hids3 x h8).1); exact aSkip), ⟨_, aRow⟩, hF2, hout3, fun x hx => ⟨by have := (hids3 x hx).1; exact Nat.lt_of_lt_of_le this aNx, (hids3 x hx).2⟩⟩
  refine Go.callN (memory_call (hM'.keep aKeep aNx) (by rw [g.mem]; exact ok.mem)) ?_
  rintro _ H5 n5 ⟨b', d', rfl, q1, q2, q3, q4, q5⟩
  have rD5 : getH H5 (n2 + 7) = some (.row 2 1 dD (s.mem.map i64)) := (q5 _ aNx).trans aRow
  have hn5 : n ≤ n5 := Nat.le_trans aNx q3
  have hgm := g.mem
  clear q5 q1
  repeat' (first
    | ((with_reducible refine Go.red ?_); conv => whnf)
    | (with_reducible refine Go.and ?_ ?_)
    | (with_reducible exact True.intro)
    | (with_reducible refine Go.far ?_)
    | ((with_reducible refine Apt.mk ?_); (try dsimp only); omega)
    | ((with_reducible refine Ask.mk ?_); first | exact aAsk | exact aAsk2)
    | ((with_reducible refine Go.ari64 ?_ ?_ ?_); (· exact aBnd); (· exact aBnd))
    | ((with_reducible refine Go.ariu8 ?_ ?_ ?_); (· exact aBnd); (· exact aBnd))
    | (with_reducible refine Go.ari0 ?_)
    | (apply Go.elem; (· exact aElem))
    | (apply Go.row; (· exact aRow))
    | (apply Go.gives; (· exact aGives))
    | (apply Go.gives; (· exact aRes))
    | (with_reducible refine Go.unroll ?_)
    | ((refine Go.lookW (words_call (l1 := s.mem) (l2 := s.mem) aRow aRow aNx aNx (by omega) (List.length_map _).symm g.mem) ?_ ?_); (· exact True.intro))
    | ((refine Go.lookJ (fun _ => words_call (l1 := s.mem) (l2 := s.mem) aRow aRow aNx aNx (by omega) (List.length_map _).symm g.mem) ?_ ?_); (· exact True.intro))
    | (refine Go.gt rfl ?_)
    | (refine Go.gf rfl ?_)
    | (with_reducible refine Go.join ?_)
    | (refine Go.lt' rfl ?_)
    | (refine Go.lf' rfl ?_)
    | ((with_reducible refine Go.bool ?_ ?_) <;> intro hc <;> (try simp only [List.length_map, ne_eq, hcs] at hc) <;> try (exfalso; omega))
    | ((with_reducible refine Res.eq ?_ ?_); (· exact aFit)))
  all_goals first | (rw [decide_eq_true rfl]; done) | simp
end Go.Proofs.Ytliabecchkolgaa
