/- What a step changes. -/
import Derived.Test.YtliabecchkolgaaVfork
import Derived.Test.YtliabecchkolgaaVlook
import Derived.Test.YtliabecchkolgaaVa
namespace Go.Proofs.Ytliabecchkolgaa
open Go Go.Abs Go.Proofs
set_option linter.unusedSimpArgs false
set_option linter.unusedVariables false
/-- What a step of a core leaves alone. -/
structure Leaves (s : Mach) (k : Int) (d : DidS) (e : Int) (s2 : Mach) : Prop where
  err : e ≠ 0 → d = did0
  core : ∀ q : Nat, (q : Int) ≠ k ∨ d.kind = 0 → s2.core q = s.core q
  memlen : s2.mem.length = s.mem.length
  mem : ∀ a : Nat, s2.mem.getD a default ≠ s.mem.getD a default → (d.kind = 4 ∨ d.kind = 8) ∧ d.addr = a
  prints : s2.prints = if d.kind = 6 then s.prints ++ [⟨k, d.word⟩] else s.prints
theorem leaves {s : Mach} {k : Int} {r : Mach × DidS × Int} (h : StepOk s k r) : Leaves s k r.2.1 r.2.2 r.1 := by
  cases h with
  | bad e he => exact ⟨fun _ => rfl, fun q _ => rfl, rfl, fun a h => absurd rfl h, by simp [did0]⟩
  | idle h => exact ⟨fun _ => rfl, fun q _ => rfl, rfl, fun a h => absurd rfl h, by simp [did0]⟩
  | does q hq d s2 hd =>
    have hk := hd.kind
    refine ⟨fun h => absurd rfl h, fun j hj => hd.other j (fun he => ?_), ?_, fun a ha => ?_, ?_⟩
    · subst he; rcases hj with hj | hj
      · exact hj hq.symm
      · have h0 : d.kind = 0 := hj
        omega
    · show s2.mem.length = _
      rw [hd.mem]; split
      · simp
      · split <;> simp
    · simp only at ha ⊢
      rw [hd.mem] at ha
      have set_at : ∀ (l : List Int) (x w : Int), 0 ≤ x → (l.set x.toNat w).getD a default ≠ l.getD a default → x = a := by
        intro l x w hx h
        by_cases hxa : x.toNat = a
        · omega
        · exact absurd (by simp [List.getD, List.getElem?_set_ne hxa]) h
      by_cases k4 : d.kind = 4
      · rw [if_pos k4] at ha
        exact ⟨.inl k4, set_at _ _ _ (hd.addr (by omega)).1 ha⟩
      · rw [if_neg k4] at ha
        by_cases k8 : d.kind = 8
        · rw [if_pos k8] at ha
          exact ⟨.inr k8, set_at _ _ _ (hd.addr (by omega)).1 ha⟩
        · rw [if_neg k8] at ha; exact absurd rfl ha
    · show s2.prints = _
      rw [hd.prints, hq]
theorem frz_core {H : Hp} {b : Nat} {d : AV} {c : CoreS} (h : getH H b = some (.row 51 3 d (c.buf.map StoreS.av))) : Abs.frz H 6 (c.av b) = c.frozen := by
  simp only [CoreS.av, Abs.frz, CoreS.cells, List.map_cons, List.map_nil, frz_sc, h]
  rw [if_pos (by simp), frz_same 4 (by simp [fitL_map, fitA, fitL])]
  rfl
theorem same_callJ {H : Hp} {nx b1 b2 : Nat} {g : Bool} {d1 d2 : AV} {c1 c2 : CoreS} (h1 : getH H b1 = some (.row 51 3 d1 (c1.buf.map StoreS.av))) (h2 : getH H b2 = some (.row 51 3 d2 (c2.buf.map StoreS.av))) (hb : c2.buf.length < 1000) (he : g = true → c1 = c2) {K : AV → Prop} (hK : Go (K (bl true))) : CallJ Try.prog g 26 [c1.av b1, c2.av b2] H nx K :=
  Go.viewJ (args2 := [c1.frozen, c2.frozen]) (r := bl true) (fun hg => by rw [he hg]; exact same_refl c2 hb) (by rw [List.map_cons, List.map_cons, List.map_nil, frz_core h1, frz_core h2]) (by simp [fitL, fitA]) trivial hK
theorem frz_sv {H : Hp} {k b len lo n : Nat} {e : TypeId} {sz : Nat} {d : AV} {es : List AV} (h : getH H b = some (.row e sz d es)) (hl : es.length = len) : Abs.frz H (k + 1) (.sv b len lo n) = .im sz .any (((es.drop lo).take n).map (Abs.frz H k)) := by
  simp only [Abs.frz, h]; rw [if_pos hl]
theorem prints_callW {H : Hp} {nx b1 b2 len n : Nat} {d1 d2 : AV} {es : List AV} {q : List PrintS} (h1 : getH H b1 = some (.row 75 2 d1 es)) (h2 : getH H b2 = some (.row 75 2 d2 (q.map PrintS.av))) (hl : es.length = len) (hn : n = (q.map PrintS.av).length) (he : es.take n = q.map PrintS.av) (hq : q.length ≤ 140737488355328) {K : AV → Hp → Nat → Prop} (hK : Go (K (bl true) H nx)) : CallW Try.prog 28 [.sv b1 len 0 n, .sl b2 (q.map PrintS.av).length] H nx K :=
  Go.view (prints_refl q hq) (by
    rw [List.map_cons, List.map_cons, List.map_nil, frz_sv h1 hl, frz_sl h2 rfl, List.drop_zero, he, frz_same 5 (by simp [fitL_map, fitA, fitL])]) (by simp [fitL, fitA, fitL_map]) trivial hK
theorem prints_mk (o : Obj) (s : Mach) (hp : s.prints.length * 16 ≤ 140737488355328) : CallN Try.prog 27 [s.frozen o] [] 0 (fun r1 H1 _ => ∃ b d0, r1 = .sl b (s.prints.map PrintS.av).length ∧ getH H1 b = some (.row 75 2 d0 (s.prints.map PrintS.av))) := by
  refine Go.fn Try.func27 nm27 low27 res27 nt27 rfl ?_
  repeat' (first
    | ((with_reducible refine Go.red ?_); conv => whnf)
    | (with_reducible refine Go.and ?_ ?_)
    | (with_reducible exact True.intro)
    | (with_reducible refine Go.far ?_)
    | ((with_reducible refine Apt.mk ?_); (try dsimp only); omega)
    | ((with_reducible refine Ask.mk ?_); first | exact aAsk | exact aAsk2)
    | ((with_reducible refine Go.ari64 ?_ ?_ ?_); (· exact aBnd); (· exact aBnd))
    | ((with_reducible refine Go.ariu8 ?_ ?_ ?_); (· exact aBnd); (· exact aBnd))
    | (with_reducible refine Go.ari0 ?_)
    | (apply Go.elem; (· exact aElem))
    | (apply Go.row; (· exact aRow))
    | (apply Go.gives; (· exact aGives))
    | (apply Go.gives; (· exact aRes))
    | (with_reducible refine Go.unroll ?_)
    | (refine Go.gt rfl ?_)
    | (refine Go.gf rfl ?_)
    | (with_reducible refine Go.join ?_)
    | (refine Go.lt' rfl ?_)
    | (refine Go.lf' rfl ?_)
    | ((with_reducible refine Go.bool ?_ ?_) <;> intro hc <;> (try simp only [List.length_map, ne_eq, hcs] at hc) <;> try (exfalso; omega))
    | ((with_reducible refine Res.eq ?_ ?_); (· exact aFit)))
  refine Go.callN (((clone_prints_mk (es := s.prints.map PrintS.av) (by rw [List.length_map]; omega)).freshN (fun i hi => by rw [getD_av _ _ _ _ (by simpa using hi)]; trivial) rfl (by simp [fitL, fitA, fitL_map]))) ?_
  rintro _ _ _ ⟨rfl, rfl, rfl⟩
  repeat' (first
    | ((with_reducible refine Go.red ?_); conv => whnf)
    | (with_reducible refine Go.and ?_ ?_)
    | (with_reducible exact True.intro)
    | (with_reducible refine Go.far ?_)
    | ((with_reducible refine Apt.mk ?_); (try dsimp only); omega)
    | ((with_reducible refine Ask.mk ?_); first | exact aAsk | exact aAsk2)
    | ((with_reducible refine Go.ari64 ?_ ?_ ?_); (· exact aBnd); (· exact aBnd))
    | ((with_reducible refine Go.ariu8 ?_ ?_ ?_); (· exact aBnd); (· exact aBnd))
    | (with_reducible refine Go.ari0 ?_)
    | (apply Go.elem; (· exact aElem))
    | (apply Go.row; (· exact aRow))
    | (apply Go.gives; (· exact aGives))
    | (apply Go.gives; (· exact aRes))
    | (with_reducible refine Go.unroll ?_)
    | (refine Go.gt rfl ?_)
    | (refine Go.gf rfl ?_)
    | (with_reducible refine Go.join ?_)
    | (refine Go.lt' rfl ?_)
    | (refine Go.lf' rfl ?_)
    | ((with_reducible refine Go.bool ?_ ?_) <;> intro hc <;> (try simp only [List.length_map, ne_eq, hcs] at hc) <;> try (exfalso; omega))
    | ((with_reducible refine Res.eq ?_ ?_); (· exact aFit)))
  exact ⟨⟨_, _, rfl, aRow⟩⟩
theorem prints_call {o : Obj} {s : Mach} {L : Lay} {H : Hp} {nx : Nat} (h : MAt o s L H nx) (hp : s.prints.length * 16 ≤ 140737488355328) : CallN Try.prog 27 [.pt L.m 1 0 0] H nx (fun r H' n => r = .sl nx (s.prints.map PrintS.av).length ∧ H' = (nx, some (.row 75 2 .any (s.prints.map PrintS.av))) :: H ∧ n = nx + 1) :=
  (prints_mk o s hp).freshN (fun i hi => by rw [getD_av _ _ _ _ (by simpa using hi)]; trivial) (by rw [List.map_cons, List.map_nil, h.frz]) (by simp [fitL, fit_frozen])
set_option maxHeartbeats 20000000 in
set_option maxRecDepth 200000 in
theorem local_pure {o : Obj} (ho : o.Wf) (h : objOk o = true) (l : List StepV) (hl : l.length * 24 + 48 ≤ 140737488355328) : Pure Try.prog 7 [o.av, .im 2 .any (l.map StepV.av)] (fun r => r = bl true) := by
  refine Go.pure Try.func7 nm7 low7 res7 nt7 rfl ?_
  repeat' (first
    | ((with_reducible refine Go.red ?_); conv => whnf)
    | (with_reducible refine Go.and ?_ ?_)
    | (with_reducible exact True.intro)
    | (with_reducible refine Go.far ?_)
    | ((with_reducible refine Apt.mk ?_); (try dsimp only); omega)
    | ((with_reducible refine Ask.mk ?_); first | exact aAsk | exact aAsk2)
    | ((with_reducible refine Go.ari64 ?_ ?_ ?_); (· exact aBnd); (· exact aBnd))
    | ((with_reducible refine Go.ariu8 ?_ ?_ ?_); (· exact aBnd); (· exact aBnd))
    | (with_reducible refine Go.ari0 ?_)
    | (apply Go.elem; (· exact aElem))
    | (apply Go.row; (· exact aRow))
    | (apply Go.gives; (· exact aGives))
    | (apply Go.gives; (· exact aRes))
    | (with_reducible refine Go.unroll ?_)
    | ((with_reducible refine Go.callW (begins_pure) ?_ ?_); (· exact aFit))
    | ((with_reducible refine Go.callJ (fun _ => begins_pure) ?_ ?_); (· exact aFit))
    | ((with_reducible refine Go.callE (begins_pure) ?_ ?_); (· exact aFit))
    | ((with_reducible refine Go.callF (fun _ => begins_pure) ?_ ?_); (· exact aFit))
    | (refine Go.gt rfl ?_)
    | (refine Go.gf rfl ?_)
    | (with_reducible refine Go.join ?_)
    | (refine Go.lt' rfl ?_)
    | (refine Go.lf' rfl ?_)
    | ((with_reducible refine Go.bool ?_ ?_) <;> intro hc <;> (try simp only [List.length_map, ne_eq, hcs] at hc) <;> try (exfalso; omega))
    | ((with_reducible refine Res.eq ?_ ?_); (· exact aFit)))
  have ok := objOk_ok h
  refine Go.callN (made_ok ho h) ?_
  rintro _ H2 n2 ⟨L, rfl, hM, h1, h2, h3⟩
  have hn4 : 4 ≤ n2 := by omega
  have hc8 := ok.cores
  have hml := ok.mem
  clear h3
  repeat' (first
    | ((with_reducible refine Go.red ?_); conv => whnf)
    | (with_reducible refine Go.and ?_ ?_)
    | (with_reducible exact True.intro)
    | (with_reducible refine Go.far ?_)
    | ((with_reducible refine Apt.mk ?_); (try dsimp only); omega)
    | ((with_reducible refine Ask.mk ?_); first | exact aAsk | exact aAsk2)
    | ((with_reducible refine Go.ari64 ?_ ?_ ?_); (· exact aBnd); (· exact aBnd))
    | ((with_reducible refine Go.ariu8 ?_ ?_ ?_); (· exact aBnd); (· exact aBnd))
    | (with_reducible refine Go.ari0 ?_)
    | (apply Go.elem; (· exact aElem))
    | (apply Go.row; (· exact aRow))
    | (apply Go.gives; (· exact aGives))
    | (apply Go.gives; (· exact aRes))
    | (with_reducible refine Go.unroll ?_)
    | (refine Go.gt rfl ?_)
    | (refine Go.gf rfl ?_)
    | (with_reducible refine Go.join ?_)
    | (refine Go.lt' rfl ?_)
    | (refine Go.lf' rfl ?_)
    | ((with_reducible refine Go.bool ?_ ?_) <;> intro hc <;> (try simp only [List.length_map, ne_eq, hcs] at hc) <;> try (exfalso; omega))
    | ((with_reducible refine Res.eq ?_ ?_); (· exact aFit)))
  refine Go.loop (fun i : Nat => [(1, .im 2 .any (l.map StepV.av)), (5, .pt L.m 1 0 0), (7, i64 i)]) (fun i H n => i ≤ l.length ∧ ∃ s A, A.m = L.m ∧ MAt o s A H n ∧ Good o s ∧ s.prints.length ≤ i) (fun i => l.length - i) 0 aLess ⟨Nat.zero_le _, initM o, L, rfl, hM.keep aKeep aNx, good_init ok, Nat.zero_le _⟩ ?_
  rintro i H n ⟨hi, s, A, mA, hA, g, hpr⟩
  rw [← mA]
  clear hM h2
  repeat' (first
      | ((with_reducible refine Go.red ?_); conv => whnf)
      | (with_reducible refine Go.and ?_ ?_)
      | (with_reducible exact True.intro)
      | (with_reducible refine Go.far ?_)
      | ((with_reducible refine Apt.mk ?_); (try dsimp only); omega)
      | ((with_reducible refine Ask.mk ?_); first | exact aAsk | exact aAsk2)
      | ((with_reducible refine Go.ari64 ?_ ?_ ?_); (· exact aBnd); (· exact aBnd))
      | ((with_reducible refine Go.ariu8 ?_ ?_ ?_); (· exact aBnd); (· exact aBnd))
      | (with_reducible refine Go.ari0 ?_)
      | (apply Go.elem; (· exact aElem))
      | (apply Go.row; (· exact aRow))
      | (apply Go.gives; (· exact aGives))
      | (apply Go.gives; (· exact aRes))
      | (with_reducible refine Go.unroll ?_)
      | (refine Go.gt rfl ?_)
      | (refine Go.gf rfl ?_)
      | (with_reducible refine Go.join ?_)
      | (refine Go.lt' rfl ?_)
      | (refine Go.lf' rfl ?_)
      | ((with_reducible refine Go.bool ?_ ?_) <;> intro hc <;> (try simp only [List.length_map, ne_eq, hcs] at hc) <;> try (exfalso; omega))
      | ((with_reducible refine Res.eq ?_ ?_); (· exact aFit)))
  · refine Go.callN (fork_call (hA.keep aKeep aNx) g ok (by omega)) ?_
    rintro _ H5 n5 ⟨F, rfl, hF, p1, p2, p3⟩
    have q5 : n ≤ n5 := Nat.le_trans aNx p2
    have hA5 := hA.keep (fun x hx => (p3 x aNx).trans aSkip) q5
    have f1 : Far A F := fun x hx hm => by have h1 := hA.lt x hx; have h2 := p1 x hm; have h3 : n ≤ x := Nat.le_trans aNx h2; omega
    clear p1 p2 p3 hA
    repeat' (first
        | ((with_reducible refine Go.red ?_); conv => whnf)
        | (with_reducible refine Go.and ?_ ?_)
        | (with_reducible exact True.intro)
        | (with_reducible refine Go.far ?_)
        | ((with_reducible refine Apt.mk ?_); (try dsimp only); omega)
        | ((with_reducible refine Ask.mk ?_); first | exact aAsk | exact aAsk2)
        | ((with_reducible refine Go.ari64 ?_ ?_ ?_); (· exact aBnd); (· exact aBnd))
        | ((with_reducible refine Go.ariu8 ?_ ?_ ?_); (· exact aBnd); (· exact aBnd))
        | (with_reducible refine Go.ari0 ?_)
        | (apply Go.elem; (· exact aElem))
        | (apply Go.row; (· exact aRow))
        | (apply Go.gives; (· exact aGives))
        | (apply Go.gives; (· exact aRes))
        | (with_reducible refine Go.unroll ?_)
        | (refine Go.gt rfl ?_)
        | (refine Go.gf rfl ?_)
        | (with_reducible refine Go.join ?_)
        | (refine Go.lt' rfl ?_)
        | (refine Go.lf' rfl ?_)
        | ((with_reducible refine Go.bool ?_ ?_) <;> intro hc <;> (try simp only [List.length_map, ne_eq, hcs] at hc) <;> try (exfalso; omega))
        | ((with_reducible refine Res.eq ?_ ?_); (· exact aFit)))
    refine Go.callN (step_call (hA5.keep aKeep aNx) g ok (by omega) (l.getD i default).kind (l.getD i default).core) ?_
    rintro _ H6 n6 ⟨rfl, hn6, ⟨A2, hA2, hmv⟩, hfr⟩
    have q6 : n5 ≤ n6 := Nat.le_trans aNx hn6
    have fr6 : ∀ x, x < n5 → x ∉ A.ids → getH H6 x = getH H5 x := fun x hx hxo => (hfr x aNx hxo).trans aSkip
    have m6 := hmv.m
    have hF6 := hF.beside f1 fr6 q6
    have LF := leaves (step_does g ok (l.getD i default).kind (l.getD i default).core)
    have g2 := g.step ok (l.getD i default).kind (l.getD i default).core
    have hp2 := prints_step o s (l.getD i default).kind (l.getD i default).core
    clear hfr hmv hn6 fr6 hA5 hF f1
    generalize stepS o s (l.getD i default).kind (l.getD i default).core = r at *
    obtain ⟨s2, d, e⟩ := r
    obtain ⟨kind, cr, pc, addr, word, put, own⟩ := d
    simp only at LF g2 hp2 hA2 ⊢
    rw [← m6]
    have hn1 := g.n
    have hn2 := g2.n
    repeat' (first
        | ((with_reducible refine Go.red ?_); conv => whnf)
        | (with_reducible refine Go.and ?_ ?_)
        | (with_reducible exact True.intro)
        | (with_reducible refine Go.far ?_)
        | ((with_reducible refine Apt.mk ?_); (try dsimp only); omega)
        | ((with_reducible refine Ask.mk ?_); first | exact aAsk | exact aAsk2)
        | ((with_reducible refine Go.ari64 ?_ ?_ ?_); (· exact aBnd); (· exact aBnd))
        | ((with_reducible refine Go.ariu8 ?_ ?_ ?_); (· exact aBnd); (· exact aBnd))
        | (with_reducible refine Go.ari0 ?_)
        | (apply Go.elem; (· exact aElem))
        | (apply Go.row; (· exact aRow))
        | (apply Go.gives; (· exact aGives))
        | (apply Go.gives; (· exact aRes))
        | (with_reducible refine Go.unroll ?_)
        | (refine Go.gt rfl ?_)
        | (refine Go.gf rfl ?_)
        | (with_reducible refine Go.join ?_)
        | (refine Go.lt' rfl ?_)
        | (refine Go.lf' rfl ?_)
        | ((with_reducible refine Go.bool ?_ ?_) <;> intro hc <;> (try simp only [List.length_map, ne_eq, hcs] at hc) <;> try (exfalso; omega))
        | ((with_reducible refine Res.eq ?_ ?_); (· exact aFit)))
    · have hz := LF.err hc.1
      simp only [did0, DidS.mk.injEq] at hz
      obtain ⟨rfl, rfl, rfl, rfl, rfl, rfl, rfl⟩ := hz
      exact absurd hc.2 (by simp)
    clear hc
    refine Go.loop (fun k : Nat => [(1, .im 2 .any (l.map StepV.av)), (5, .pt A2.m 1 0 0), (7, i64 i), (8, .pt F.m 1 0 0), (9, .pt (n6 + 3) 1 0 0), (11, i64 k)]) (fun k H' n' => k ≤ o.cores.length ∧ n6 + 4 ≤ n' ∧ (∃ dd, getH H' (n6 + 3) = some (.row 33 7 dd [DidS.av ⟨kind, cr, pc, addr, word, put, own⟩])) ∧ ∀ b, b < n6 → getH H' b = getH H6 b) (fun k => o.cores.length - k) 0 aLess ⟨Nat.zero_le _, aNx, ⟨_, aRow⟩, fun b hb => aSkip⟩ ?_
    rintro k H7 n7 ⟨hk, hn7, ⟨dd, rd⟩, hf7⟩
    have hA7 : MAt o s2 A2 H7 n7 := hA2.keep hf7 (by omega)
    have hF7 : MAt o s F H7 n7 := hF6.keep hf7 (by omega)
    repeat' (first
        | ((with_reducible refine Go.red ?_); conv => whnf)
        | (with_reducible refine Go.and ?_ ?_)
        | (with_reducible exact True.intro)
        | (with_reducible refine Go.far ?_)
        | ((with_reducible refine Apt.mk ?_); (try dsimp only); omega)
        | ((with_reducible refine Ask.mk ?_); first | exact aAsk | exact aAsk2)
        | ((with_reducible refine Go.ari64 ?_ ?_ ?_); (· exact aBnd); (· exact aBnd))
        | ((with_reducible refine Go.ariu8 ?_ ?_ ?_); (· exact aBnd); (· exact aBnd))
        | (with_reducible refine Go.ari0 ?_)
        | (apply Go.elem; (· exact aElem))
        | (apply Go.row; (· exact aRow))
        | (apply Go.gives; (· exact aGives))
        | (apply Go.gives; (· exact aRes))
        | (with_reducible refine Go.unroll ?_)
        | ((refine Go.lookW (hn2 ▸ cores_call (hA7.keep aKeep aNx)) ?_ ?_); (· exact True.intro))
        | ((refine Go.lookJ (fun _ => hn2 ▸ cores_call (hA7.keep aKeep aNx)) ?_ ?_); (· exact True.intro))
        | (refine Go.gt rfl ?_)
        | (refine Go.gf rfl ?_)
        | (with_reducible refine Go.join ?_)
        | (refine Go.lt' rfl ?_)
        | (refine Go.lf' rfl ?_)
        | ((with_reducible refine Go.bool ?_ ?_) <;> intro hc <;> (try simp only [List.length_map, ne_eq, hcs] at hc) <;> try (exfalso; omega))
        | ((with_reducible refine Res.eq ?_ ?_); (· exact aFit)))
    · have hk2 : k < o.cores.length := by omega
      have hkb2 := (g2.lookable ok (by omega)).buf k (by omega)
      have hkb := (g.lookable ok (by omega)).buf k (by omega)
      refine Go.callN (view_in (hA7.keep aKeep aNx) (q := k) (by omega) hkb2) ?_
      rintro _ H8 n8 ⟨b1, d1, rfl, v1, v2, v3, v4, v5⟩
      have q8 : n7 ≤ n8 := Nat.le_trans aNx v3
      have f8 : ∀ x, x < n7 → getH H8 x = getH H7 x := fun x hx => (v5 x aNx).trans aSkip
      have lb1 : n7 ≤ b1 := Nat.le_trans aNx v1
      have hF8 := hF7.keep f8 q8
      clear v1 v3 v5
      repeat' (first
          | ((with_reducible refine Go.red ?_); conv => whnf)
          | (with_reducible refine Go.and ?_ ?_)
          | (with_reducible exact True.intro)
          | (with_reducible refine Go.far ?_)
          | ((with_reducible refine Apt.mk ?_); (try dsimp only); omega)
          | ((with_reducible refine Ask.mk ?_); first | exact aAsk | exact aAsk2)
          | ((with_reducible refine Go.ari64 ?_ ?_ ?_); (· exact aBnd); (· exact aBnd))
          | ((with_reducible refine Go.ariu8 ?_ ?_ ?_); (· exact aBnd); (· exact aBnd))
          | (with_reducible refine Go.ari0 ?_)
          | (apply Go.elem; (· exact aElem))
          | (apply Go.row; (· exact aRow))
          | (apply Go.gives; (· exact aGives))
          | (apply Go.gives; (· exact aRes))
          | (with_reducible refine Go.unroll ?_)
          | (refine Go.gt rfl ?_)
          | (refine Go.gf rfl ?_)
          | (with_reducible refine Go.join ?_)
          | (refine Go.lt' rfl ?_)
          | (refine Go.lf' rfl ?_)
          | ((with_reducible refine Go.bool ?_ ?_) <;> intro hc <;> (try simp only [List.length_map, ne_eq, hcs] at hc) <;> try (exfalso; omega))
          | ((with_reducible refine Res.eq ?_ ?_); (· exact aFit)))
      refine Go.callN (view_in (hF8.keep aKeep aNx) (q := k) (by omega) hkb) ?_
      rintro _ H9 n9 ⟨b2, d2, rfl, w1, w2, w3, w4, w5⟩
      have q9 : n8 + 4 ≤ n9 := Nat.le_trans aNx w3
      have lb2 : n8 + 4 ≤ b2 := Nat.le_trans aNx w1
      have f9 : ∀ x, x < n8 → getH H9 x = getH H8 x := fun x hx => (w5 x aNx).trans aSkip
      have r12 : ∃ d, getH H9 (n8 + 3) = some (.row 55 19 d [(s2.core k).av b1]) := ⟨_, (w5 _ aNx).trans aRow⟩
      obtain ⟨d12, r12⟩ := r12
      have r1 := (f9 b1 v2).trans v4
      have rd9 := ((f9 (n6 + 3) (by omega)).trans (f8 _ (by omega))).trans rd
      have hf9 : ∀ b, b < n6 → getH H9 b = getH H6 b := fun b hb => ((f9 b (by omega)).trans (f8 b (by omega))).trans (hf7 b hb)
      clear w1 w3 w5 f9 f8 v4 rd
      repeat' (first
          | ((with_reducible refine Go.red ?_); conv => whnf)
          | (with_reducible refine Go.and ?_ ?_)
          | (with_reducible exact True.intro)
          | (with_reducible refine Go.far ?_)
          | ((with_reducible refine Apt.mk ?_); (try dsimp only); omega)
          | ((with_reducible refine Ask.mk ?_); first | exact aAsk | exact aAsk2)
          | ((with_reducible refine Go.ari64 ?_ ?_ ?_); (· exact aBnd); (· exact aBnd))
          | ((with_reducible refine Go.ariu8 ?_ ?_ ?_); (· exact aBnd); (· exact aBnd))
          | (with_reducible refine Go.ari0 ?_)
          | (apply Go.elem; (· exact aElem))
          | (apply Go.row; (· exact aRow))
          | (apply Go.gives; (· exact aGives))
          | (apply Go.gives; (· exact aRes))
          | (with_reducible refine Go.unroll ?_)
          | (refine Go.gt rfl ?_)
          | (refine Go.gf rfl ?_)
          | (with_reducible refine Go.join ?_)
          | (refine Go.lt' rfl ?_)
          | (refine Go.lf' rfl ?_)
          | ((with_reducible refine Go.bool ?_ ?_) <;> intro hc <;> (try simp only [List.length_map, ne_eq, hcs] at hc) <;> try (exfalso; omega))
          | ((with_reducible refine Res.eq ?_ ?_); (· exact aFit)))
      refine same_callJ (c1 := s2.core k) (c2 := s.core k) aRow aRow hkb (fun hg => LF.core k (.inl (of_decide_eq_true hg))) ?_
      repeat' (first
          | ((with_reducible refine Go.red ?_); conv => whnf)
          | (with_reducible refine Go.and ?_ ?_)
          | (with_reducible exact True.intro)
          | (with_reducible refine Go.far ?_)
          | ((with_reducible refine Apt.mk ?_); (try dsimp only); omega)
          | ((with_reducible refine Ask.mk ?_); first | exact aAsk | exact aAsk2)
          | ((with_reducible refine Go.ari64 ?_ ?_ ?_); (· exact aBnd); (· exact aBnd))
          | ((with_reducible refine Go.ariu8 ?_ ?_ ?_); (· exact aBnd); (· exact aBnd))
          | (with_reducible refine Go.ari0 ?_)
          | (apply Go.elem; (· exact aElem))
          | (apply Go.row; (· exact aRow))
          | (apply Go.gives; (· exact aGives))
          | (apply Go.gives; (· exact aRes))
          | (with_reducible refine Go.unroll ?_)
          | (refine Go.gt rfl ?_)
          | (refine Go.gf rfl ?_)
          | (with_reducible refine Go.join ?_)
          | (refine Go.lt' rfl ?_)
          | (refine Go.lf' rfl ?_)
          | ((with_reducible refine Go.bool ?_ ?_) <;> intro hc <;> (try simp only [List.length_map, ne_eq, hcs] at hc) <;> try (exfalso; omega))
          | ((with_reducible refine Res.eq ?_ ?_); (· exact aFit)))
      refine same_callJ (c1 := s2.core k) (c2 := s.core k) aRow aRow hkb (fun hg => LF.core k (.inr ?_)) ?_
      · exact of_decide_eq_true (Bool.and_eq_true_iff.1 hg).2
      repeat' (first
          | ((with_reducible refine Go.red ?_); conv => whnf)
          | (with_reducible refine Go.and ?_ ?_)
          | (with_reducible exact True.intro)
          | (with_reducible refine Go.far ?_)
          | ((with_reducible refine Apt.mk ?_); (try dsimp only); omega)
          | ((with_reducible refine Ask.mk ?_); first | exact aAsk | exact aAsk2)
          | ((with_reducible refine Go.ari64 ?_ ?_ ?_); (· exact aBnd); (· exact aBnd))
          | ((with_reducible refine Go.ariu8 ?_ ?_ ?_); (· exact aBnd); (· exact aBnd))
          | (with_reducible refine Go.ari0 ?_)
          | (apply Go.elem; (· exact aElem))
          | (apply Go.row; (· exact aRow))
          | (apply Go.gives; (· exact aGives))
          | (apply Go.gives; (· exact aRes))
          | (with_reducible refine Go.unroll ?_)
          | (refine Go.lf' aSimp ?_)
          | (refine Go.gt rfl ?_)
          | (refine Go.gf rfl ?_)
          | (with_reducible refine Go.join ?_)
          | (refine Go.lt' rfl ?_)
          | (refine Go.lf' rfl ?_)
          | ((with_reducible refine Go.bool ?_ ?_) <;> intro hc <;> (try simp only [List.length_map, ne_eq, hcs] at hc) <;> try (exfalso; omega))
          | ((with_reducible refine Res.eq ?_ ?_); (· exact aFit)))
      exact ⟨k + 1, by omega, aLess, by omega, aNx, ⟨_, aRow⟩, fun b hb => (aSkip : _ = getH H9 b).trans (hf9 b hb)⟩
    · refine Go.callN (memory_call (hA7.keep aKeep aNx) (by rw [g2.mem]; exact ok.mem)) ?_
      rintro _ H8 n8 ⟨b1, d1, rfl, v1, v2, v3, v4, v5⟩
      have q8 : n7 ≤ n8 := Nat.le_trans aNx v3
      have lb1 : n7 ≤ b1 := Nat.le_trans aNx v1
      have f8 : ∀ x, x < n7 → getH H8 x = getH H7 x := fun x hx => (v5 x aNx).trans aSkip
      have hA8 := hA7.keep f8 q8
      have hF8 := hF7.keep f8 q8
      have rd8 := (f8 (n6 + 3) (by omega)).trans rd
      clear v1 v3 v5 f8 rd hA7 hF7 hA2 hF6 hf7
      repeat' (first
          | ((with_reducible refine Go.red ?_); conv => whnf)
          | (with_reducible refine Go.and ?_ ?_)
          | (with_reducible exact True.intro)
          | (with_reducible refine Go.far ?_)
          | ((with_reducible refine Apt.mk ?_); (try dsimp only); omega)
          | ((with_reducible refine Ask.mk ?_); first | exact aAsk | exact aAsk2)
          | ((with_reducible refine Go.ari64 ?_ ?_ ?_); (· exact aBnd); (· exact aBnd))
          | ((with_reducible refine Go.ariu8 ?_ ?_ ?_); (· exact aBnd); (· exact aBnd))
          | (with_reducible refine Go.ari0 ?_)
          | (apply Go.elem; (· exact aElem))
          | (apply Go.row; (· exact aRow))
          | (apply Go.gives; (· exact aGives))
          | (apply Go.gives; (· exact aRes))
          | (with_reducible refine Go.unroll ?_)
          | (refine Go.gt rfl ?_)
          | (refine Go.gf rfl ?_)
          | (with_reducible refine Go.join ?_)
          | (refine Go.lt' rfl ?_)
          | (refine Go.lf' rfl ?_)
          | ((with_reducible refine Go.bool ?_ ?_) <;> intro hc <;> (try simp only [List.length_map, ne_eq, hcs] at hc) <;> try (exfalso; omega))
          | ((with_reducible refine Res.eq ?_ ?_); (· exact aFit)))
      refine Go.callN (memory_call (hF8.keep aKeep aNx) (by rw [g.mem]; exact ok.mem)) ?_
      rintro _ H9 n9 ⟨b2, d2, rfl, w1, w2, w3, w4, w5⟩
      have q9 : n8 ≤ n9 := Nat.le_trans aNx w3
      have lb2 : n8 ≤ b2 := Nat.le_trans aNx w1
      have f9 : ∀ x, x < n8 → getH H9 x = getH H8 x := fun x hx => (w5 x aNx).trans aSkip
      have hA9 := hA8.keep f9 q9
      have hF9 := hF8.keep f9 q9
      have rd9 := (f9 (n6 + 3) (by omega)).trans rd8
      have r1 := (f9 b1 v2).trans v4
      have hml2 := LF.memlen
      have hsm := g.mem
      clear w1 w3 w5 f9 v4 rd8 hA8 hF8
      repeat' (first
          | ((with_reducible refine Go.red ?_); conv => whnf)
          | (with_reducible refine Go.and ?_ ?_)
          | (with_reducible exact True.intro)
          | (with_reducible refine Go.far ?_)
          | ((with_reducible refine Apt.mk ?_); (try dsimp only); omega)
          | ((with_reducible refine Ask.mk ?_); first | exact aAsk | exact aAsk2)
          | ((with_reducible refine Go.ari64 ?_ ?_ ?_); (· exact aBnd); (· exact aBnd))
          | ((with_reducible refine Go.ariu8 ?_ ?_ ?_); (· exact aBnd); (· exact aBnd))
          | (with_reducible refine Go.ari0 ?_)
          | (apply Go.elem; (· exact aElem))
          | (apply Go.row; (· exact aRow))
          | (apply Go.gives; (· exact aGives))
          | (apply Go.gives; (· exact aRes))
          | (with_reducible refine Go.unroll ?_)
          | (refine Go.gt rfl ?_)
          | (refine Go.gf rfl ?_)
          | (with_reducible refine Go.join ?_)
          | (refine Go.lt' rfl ?_)
          | (refine Go.lf' rfl ?_)
          | ((with_reducible refine Go.bool ?_ ?_) <;> intro hc <;> (try simp only [List.length_map, ne_eq, hcs] at hc) <;> try (exfalso; omega))
          | ((with_reducible refine Res.eq ?_ ?_); (· exact aFit)))
      refine Go.loop (fun k : Nat => [(1, .im 2 .any (l.map StepV.av)), (5, .pt A2.m 1 0 0), (7, i64 i), (8, .pt F.m 1 0 0), (9, .pt (n6 + 3) 1 0 0), (16, .sl b1 s2.mem.length), (17, .sl b2 s.mem.length), (18, i64 k)]) (fun k H' n' => k ≤ s.mem.length ∧ n9 ≤ n' ∧ ∀ b, b < n9 → getH H' b = getH H9 b) (fun k => s.mem.length - k) 0 aLess ⟨Nat.zero_le _, aNx, fun b hb => aSkip⟩ ?_
      rintro k2 H10 n10 ⟨hk2, hn10, hf10⟩
      have hA10 : MAt o s2 A2 H10 n10 := hA9.keep hf10 (by omega)
      have hF10 : MAt o s F H10 n10 := hF9.keep hf10 (by omega)
      have r10 := (hf10 b1 (by omega)).trans r1
      have w10 := (hf10 b2 (by omega)).trans w4
      have rd10 := (hf10 (n6 + 3) (by omega)).trans rd9
      clear rd9 r1 w4 hA9 hF9
      repeat' (first
          | ((with_reducible refine Go.red ?_); conv => whnf)
          | (with_reducible refine Go.and ?_ ?_)
          | (with_reducible exact True.intro)
          | (with_reducible refine Go.far ?_)
          | ((with_reducible refine Apt.mk ?_); (try dsimp only); omega)
          | ((with_reducible refine Ask.mk ?_); first | exact aAsk | exact aAsk2)
          | ((with_reducible refine Go.ari64 ?_ ?_ ?_); (· exact aBnd); (· exact aBnd))
          | ((with_reducible refine Go.ariu8 ?_ ?_ ?_); (· exact aBnd); (· exact aBnd))
          | (with_reducible refine Go.ari0 ?_)
          | (apply Go.elem; (· exact aElem))
          | (apply Go.row; (· exact aRow))
          | (apply Go.gives; (· exact aGives))
          | (apply Go.gives; (· exact aRes))
          | (with_reducible refine Go.unroll ?_)
          | (refine Go.gt rfl ?_)
          | (refine Go.gf rfl ?_)
          | (with_reducible refine Go.join ?_)
          | (refine Go.lt' rfl ?_)
          | (refine Go.lf' rfl ?_)
          | ((with_reducible refine Go.bool ?_ ?_) <;> intro hc <;> (try simp only [List.length_map, ne_eq, hcs] at hc) <;> try (exfalso; omega))
          | ((with_reducible refine Res.eq ?_ ?_); (· exact aFit)))
      · obtain ⟨h1, h2⟩ := LF.mem k2 hc.1
        simp only at h1 h2
        exfalso; omega
      · exact ⟨k2 + 1, by omega, aLess, by omega, aNx, fun b hb => (aSkip : _ = getH H10 b).trans (hf10 b hb)⟩
      · have hP := LF.prints
        simp only at hP
        rw [if_pos hc] at hP
        have hlen : ((s2.prints.map PrintS.av).length : Int) = ((s.prints.map PrintS.av).length : Nat) + 1 := by rw [hP]; simp
        have hle : s.prints.length ≤ s2.prints.length := by rw [hP]; simp
        have hlp : (s.prints.map PrintS.av).length = s.prints.length := List.length_map _
        have htk : (s2.prints.map PrintS.av).take (s.prints.map PrintS.av).length = s.prints.map PrintS.av := by rw [hP]; simp
        have hel : ∀ d, (s2.prints.map PrintS.av).getD (s.prints.map PrintS.av).length d = PrintS.av ⟨(l.getD i default).core, word⟩ := fun d => by rw [hP]; simp [List.getD]
        refine Go.callN (prints_call (hA10.keep aKeep aNx) (by omega)) ?_
        rintro _ _ _ ⟨rfl, rfl, rfl⟩
        repeat' (first
            | ((with_reducible refine Go.red ?_); conv => whnf)
            | (with_reducible refine Go.and ?_ ?_)
            | (with_reducible exact True.intro)
            | (with_reducible refine Go.far ?_)
            | ((with_reducible refine Apt.mk ?_); (try dsimp only); omega)
            | ((with_reducible refine Ask.mk ?_); first | exact aAsk | exact aAsk2)
            | ((with_reducible refine Go.ari64 ?_ ?_ ?_); (· exact aBnd); (· exact aBnd))
            | ((with_reducible refine Go.ariu8 ?_ ?_ ?_); (· exact aBnd); (· exact aBnd))
            | (with_reducible refine Go.ari0 ?_)
            | (apply Go.elem; (· exact aElem))
            | (apply Go.row; (· exact aRow))
            | (apply Go.gives; (· exact aGives))
            | (apply Go.gives; (· exact aRes))
            | (with_reducible refine Go.unroll ?_)
            | (refine Go.gt rfl ?_)
            | (refine Go.gf rfl ?_)
            | (with_reducible refine Go.join ?_)
            | (refine Go.lt' rfl ?_)
            | (refine Go.lf' rfl ?_)
            | ((with_reducible refine Go.bool ?_ ?_) <;> intro hc <;> (try simp only [List.length_map, ne_eq, hcs] at hc) <;> try (exfalso; omega))
            | ((with_reducible refine Res.eq ?_ ?_); (· exact aFit)))
        refine Go.callN (prints_call (hF10.keep aKeep aNx) (by omega)) ?_
        rintro _ _ _ ⟨rfl, rfl, rfl⟩
        repeat' (first
            | ((with_reducible refine Go.red ?_); conv => whnf)
            | (with_reducible refine Go.and ?_ ?_)
            | (with_reducible exact True.intro)
            | (with_reducible refine Go.far ?_)
            | ((with_reducible refine Apt.mk ?_); (try dsimp only); omega)
            | ((with_reducible refine Ask.mk ?_); first | exact aAsk | exact aAsk2)
            | ((with_reducible refine Go.ari64 ?_ ?_ ?_); (· exact aBnd); (· exact aBnd))
            | ((with_reducible refine Go.ariu8 ?_ ?_ ?_); (· exact aBnd); (· exact aBnd))
            | (with_reducible refine Go.ari0 ?_)
            | (apply Go.elem; (· (first | exact hel _ | exact aElem)))
            | (apply Go.row; (· exact aRow))
            | (apply Go.gives; (· exact aGives))
            | (apply Go.gives; (· exact aRes))
            | (with_reducible refine Go.unroll ?_)
            | ((refine Go.gt ?_ ?_); (· simp [hP]; done))
            | ((refine Go.gf ?_ ?_); (· simp [hP]; done))
            | ((refine Go.lf' ?_ ?_); (· simp [hP]; done))
            | (refine Go.gt rfl ?_)
            | (refine Go.gf rfl ?_)
            | (with_reducible refine Go.join ?_)
            | (refine Go.lt' rfl ?_)
            | (refine Go.lf' rfl ?_)
            | ((with_reducible refine Go.bool ?_ ?_) <;> intro hc <;> (try simp only [List.length_map, ne_eq, hcs] at hc) <;> try (exfalso; omega))
            | ((with_reducible refine Res.eq ?_ ?_); (· exact aFit)))
        refine prints_callW aRow aRow rfl rfl htk (by omega) ?_
        repeat' (first
            | ((with_reducible refine Go.red ?_); conv => whnf)
            | (with_reducible refine Go.and ?_ ?_)
            | (with_reducible exact True.intro)
            | (with_reducible refine Go.far ?_)
            | ((with_reducible refine Apt.mk ?_); (try dsimp only); omega)
            | ((with_reducible refine Ask.mk ?_); first | exact aAsk | exact aAsk2)
            | ((with_reducible refine Go.ari64 ?_ ?_ ?_); (· exact aBnd); (· exact aBnd))
            | ((with_reducible refine Go.ariu8 ?_ ?_ ?_); (· exact aBnd); (· exact aBnd))
            | (with_reducible refine Go.ari0 ?_)
            | (apply Go.elem; (· (first | exact hel _ | exact aElem)))
            | (apply Go.row; (· exact aRow))
            | (apply Go.gives; (· exact aGives))
            | (apply Go.gives; (· exact aRes))
            | (with_reducible refine Go.unroll ?_)
            | ((refine Go.gt ?_ ?_); (· simp [hP]; done))
            | ((refine Go.gf ?_ ?_); (· simp [hP]; done))
            | ((refine Go.lf' ?_ ?_); (· simp [hP]; done))
            | (refine Go.gt rfl ?_)
            | (refine Go.gf rfl ?_)
            | (with_reducible refine Go.join ?_)
            | (refine Go.lt' rfl ?_)
            | (refine Go.lf' rfl ?_)
            | ((with_reducible refine Go.bool ?_ ?_) <;> intro hc <;> (try simp only [List.length_map, ne_eq, hcs] at hc) <;> try (exfalso; omega))
            | ((with_reducible refine Res.eq ?_ ?_); (· exact aFit)))
        exact ⟨i + 1, by omega, aLess, by omega, s2, A2, rfl, hA10.keep aKeep aNx, g2, by omega⟩
      · have hP := LF.prints
        simp only at hP
        rw [if_neg hc] at hP
        have hlen : ((s2.prints.map PrintS.av).length : Int) = ((s.prints.map PrintS.av).length : Nat) + 0 := by rw [hP]; simp
        have hle : s.prints.length ≤ s2.prints.length := by rw [hP]; simp
        have hlp : (s.prints.map PrintS.av).length = s.prints.length := List.length_map _
        have htk : (s2.prints.map PrintS.av).take (s.prints.map PrintS.av).length = s.prints.map PrintS.av := by rw [hP]; exact List.take_of_length_le (Nat.le_refl _)
        refine Go.callN (prints_call (hA10.keep aKeep aNx) (by omega)) ?_
        rintro _ _ _ ⟨rfl, rfl, rfl⟩
        repeat' (first
            | ((with_reducible refine Go.red ?_); conv => whnf)
            | (with_reducible refine Go.and ?_ ?_)
            | (with_reducible exact True.intro)
            | (with_reducible refine Go.far ?_)
            | ((with_reducible refine Apt.mk ?_); (try dsimp only); omega)
            | ((with_reducible refine Ask.mk ?_); first | exact aAsk | exact aAsk2)
            | ((with_reducible refine Go.ari64 ?_ ?_ ?_); (· exact aBnd); (· exact aBnd))
            | ((with_reducible refine Go.ariu8 ?_ ?_ ?_); (· exact aBnd); (· exact aBnd))
            | (with_reducible refine Go.ari0 ?_)
            | (apply Go.elem; (· exact aElem))
            | (apply Go.row; (· exact aRow))
            | (apply Go.gives; (· exact aGives))
            | (apply Go.gives; (· exact aRes))
            | (with_reducible refine Go.unroll ?_)
            | (refine Go.gt rfl ?_)
            | (refine Go.gf rfl ?_)
            | (with_reducible refine Go.join ?_)
            | (refine Go.lt' rfl ?_)
            | (refine Go.lf' rfl ?_)
            | ((with_reducible refine Go.bool ?_ ?_) <;> intro hc <;> (try simp only [List.length_map, ne_eq, hcs] at hc) <;> try (exfalso; omega))
            | ((with_reducible refine Res.eq ?_ ?_); (· exact aFit)))
        refine Go.callN (prints_call (hF10.keep aKeep aNx) (by omega)) ?_
        rintro _ _ _ ⟨rfl, rfl, rfl⟩
        repeat' (first
            | ((with_reducible refine Go.red ?_); conv => whnf)
            | (with_reducible refine Go.and ?_ ?_)
            | (with_reducible exact True.intro)
            | (with_reducible refine Go.far ?_)
            | ((with_reducible refine Apt.mk ?_); (try dsimp only); omega)
            | ((with_reducible refine Ask.mk ?_); first | exact aAsk | exact aAsk2)
            | ((with_reducible refine Go.ari64 ?_ ?_ ?_); (· exact aBnd); (· exact aBnd))
            | ((with_reducible refine Go.ariu8 ?_ ?_ ?_); (· exact aBnd); (· exact aBnd))
            | (with_reducible refine Go.ari0 ?_)
            | (apply Go.elem; (· exact aElem))
            | (apply Go.row; (· exact aRow))
            | (apply Go.gives; (· exact aGives))
            | (apply Go.gives; (· exact aRes))
            | (with_reducible refine Go.unroll ?_)
            | ((refine Go.gt ?_ ?_); (· simp [hP]; done))
            | ((refine Go.gf ?_ ?_); (· simp [hP]; done))
            | ((refine Go.lf' ?_ ?_); (· simp [hP]; done))
            | (refine Go.gt rfl ?_)
            | (refine Go.gf rfl ?_)
            | (with_reducible refine Go.join ?_)
            | (refine Go.lt' rfl ?_)
            | (refine Go.lf' rfl ?_)
            | ((with_reducible refine Go.bool ?_ ?_) <;> intro hc <;> (try simp only [List.length_map, ne_eq, hcs] at hc) <;> try (exfalso; omega))
            | ((with_reducible refine Res.eq ?_ ?_); (· exact aFit)))
        refine prints_callW aRow aRow rfl rfl htk (by omega) ?_
        repeat' (first
            | ((with_reducible refine Go.red ?_); conv => whnf)
            | (with_reducible refine Go.and ?_ ?_)
            | (with_reducible exact True.intro)
            | (with_reducible refine Go.far ?_)
            | ((with_reducible refine Apt.mk ?_); (try dsimp only); omega)
            | ((with_reducible refine Ask.mk ?_); first | exact aAsk | exact aAsk2)
            | ((with_reducible refine Go.ari64 ?_ ?_ ?_); (· exact aBnd); (· exact aBnd))
            | ((with_reducible refine Go.ariu8 ?_ ?_ ?_); (· exact aBnd); (· exact aBnd))
            | (with_reducible refine Go.ari0 ?_)
            | (apply Go.elem; (· exact aElem))
            | (apply Go.row; (· exact aRow))
            | (apply Go.gives; (· exact aGives))
            | (apply Go.gives; (· exact aRes))
            | (with_reducible refine Go.unroll ?_)
            | ((refine Go.gt ?_ ?_); (· simp [hP]; done))
            | ((refine Go.gf ?_ ?_); (· simp [hP]; done))
            | ((refine Go.lf' ?_ ?_); (· simp [hP]; done))
            | (refine Go.gt rfl ?_)
            | (refine Go.gf rfl ?_)
            | (with_reducible refine Go.join ?_)
            | (refine Go.lt' rfl ?_)
            | (refine Go.lf' rfl ?_)
            | ((with_reducible refine Go.bool ?_ ?_) <;> intro hc <;> (try simp only [List.length_map, ne_eq, hcs] at hc) <;> try (exfalso; omega))
            | ((with_reducible refine Res.eq ?_ ?_); (· exact aFit)))
        exact ⟨i + 1, by omega, aLess, by omega, s2, A2, rfl, hA10.keep aKeep aNx, g2, by omega⟩
  · exact rfl
end Go.Proofs.Ytliabecchkolgaa
