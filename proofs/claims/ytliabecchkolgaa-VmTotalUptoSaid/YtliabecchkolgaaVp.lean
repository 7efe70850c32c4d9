/- What stays right. -/
import Derived.Test.YtliabecchkolgaaVn
namespace Go.Proofs.Ytliabecchkolgaa
open Go Go.Abs Go.Proofs
set_option linter.unusedSimpArgs false
set_option linter.unusedVariables false
theorem coresOk_get : ∀ {l pre : List Core}, coresOk pre l = true → ∀ q, q < l.length → ∃ p, coreOk p (l.getD q default) = true
  | [], _, _, q, h => by simp at h
  | c :: r, pre, h, q, hq => by
    rw [coresOk, Bool.and_eq_true] at h
    cases q with
    | zero => exact ⟨pre, h.1⟩
    | succ q =>
      obtain ⟨p, hp⟩ := coresOk_get h.2 q (by simpa using hq)
      exact ⟨p, by simpa using hp⟩
theorem bad1_get {len mem : Int} : ∀ {l : List Instr} {k : Nat}, bad1 len mem l k = none → ∀ q, q < l.length → instrOk (l.getD q default) len mem = true
  | [], _, _, q, h => by simp at h
  | i :: r, k, h, q, hq => by
    rw [bad1] at h
    by_cases hi : instrOk i len mem = true
    · rw [if_pos hi] at h
      cases q with
      | zero => exact hi
      | succ q => simpa using bad1_get h q (by simpa using hq)
    · rw [if_neg hi] at h; cases h
theorem bad2_get {mem : Int} : ∀ {l : List Core} {k : Nat}, bad2 mem l k = none → ∀ q, q < l.length → bad1 (l.getD q default).code.length mem (l.getD q default).code 0 = none
  | [], _, _, q, h => by simp at h
  | c :: r, k, h, q, hq => by
    rw [bad2] at h
    cases hb : bad1 c.code.length mem c.code 0 with
    | some n => rw [hb] at h; cases h
    | none =>
      rw [hb] at h
      cases q with
      | zero => exact hb
      | succ q => simpa using bad2_get h q (by simpa using hq)
theorem objOk_ok {o : Obj} (h : objOk o = true) : ObjOk o := by
  simp only [objOk, Bool.and_eq_true, Option.isNone_iff_eq_none] at h
  obtain ⟨h1, h2⟩ := h
  simp only [shapedOk, Bool.and_eq_true, decide_eq_true_eq] at h1
  obtain ⟨⟨⟨⟨⟨⟨⟨⟨⟨p1, p2⟩, p3⟩, p4⟩, p5⟩, p6⟩, p7⟩, p8⟩, p9⟩, p10⟩ := h1
  have hc := fun q (hq : q < o.cores.length) => coresOk_get p10 q hq
  refine ⟨⟨p7, p8⟩, by omega, by omega, fun q hq => ?_, fun q hq => ?_, fun q hq k hk => bad1_get (bad2_get h2 q hq) k hk⟩
  · obtain ⟨p, hp⟩ := hc q hq
    simp only [coreOk, Bool.and_eq_true, decide_eq_true_eq] at hp
    exact ⟨hp.1.1.2, hp.1.2⟩
  · obtain ⟨p, hp⟩ := hc q hq
    simp only [coreOk, Bool.and_eq_true, decide_eq_true_eq] at hp
    exact hp.2
theorem good_init {o : Obj} (ok : ObjOk o) : Good o (initM o) := by
  have hc : ∀ q, q < (initM o).cores.length → (initM o).core q = core0 := by
    intro q hq
    simp only [initM, List.length_replicate] at hq
    simp [initM, List.getD, hq]
  have hl : (initM o).cores.length = o.cores.length := by simp [initM]
  refine ⟨hl, rfl, fun q hq => ?_, fun q hq => ?_, fun q hq x hx => ?_⟩
  · rw [hc q hq]
    have := ok.code q (by omega)
    exact ⟨by decide, by show (0 : Int) < _; omega⟩
  · rw [hc q hq]
    have := ok.buffer
    show ((0 : Nat) : Int) ≤ _; omega
  · rw [hc q hq] at hx; cases hx
theorem core_set {s : Mach} {q : Nat} (hq : q < s.cores.length) (c : CoreS) (j : Nat) : (s.setCore q c).core j = if j = q then c else s.core j := by
  by_cases h : j = q
  · subst h; simp [Mach.setCore, List.getD, hq]
  · rw [if_neg h]; simp [Mach.setCore, List.getD, List.getElem?_set_ne (Ne.symm h)]
/-- A core put anew that is right. -/
theorem Good.set {o : Obj} {s : Mach} (g : Good o s) {q : Nat} (hq : q < s.cores.length) {c : CoreS} {mem : List Int} {pr : List PrintS} (hm : mem.length = s.mem.length) (h1 : 0 ≤ c.pc ∧ c.pc < (o.core q).code.length) (h2 : (c.buf.length : Int) ≤ o.buffer) (h3 : ∀ x ∈ c.buf, 0 ≤ x.addr ∧ x.addr < s.mem.length) :
    Good o { s.setCore q c with mem := mem, prints := pr } := by
  have hc := core_set hq c
  have hl : ({ s.setCore q c with mem := mem, prints := pr } : Mach).cores.length = s.cores.length := by simp [Mach.setCore]
  refine ⟨hl.trans g.n, hm.trans g.mem, fun j hj => ?_, fun j hj => ?_, fun j hj x hx => ?_⟩
  · have e : ({ s.setCore q c with mem := mem, prints := pr } : Mach).core j = if j = q then c else s.core j := hc j
    rw [e]
    split
    · rename_i h; rw [h]; exact h1
    · exact g.pc j (by rw [hl] at hj; exact hj)
  · have e : ({ s.setCore q c with mem := mem, prints := pr } : Mach).core j = if j = q then c else s.core j := hc j
    rw [e]
    split
    · exact h2
    · exact g.buf j (by rw [hl] at hj; exact hj)
  · have e : ({ s.setCore q c with mem := mem, prints := pr } : Mach).core j = if j = q then c else s.core j := hc j
    rw [e] at hx
    show 0 ≤ x.addr ∧ x.addr < mem.length
    rw [hm]
    split at hx
    · exact h3 x hx
    · exact g.addr j (by rw [hl] at hj; exact hj) x hx
theorem inc_set {s : Mach} {q : Nat} (c : CoreS) : (s.inc q).setCore q c = s.setCore q c := by
  simp [Mach.inc, Mach.setCore]
theorem Good.set0 {o : Obj} {s : Mach} (g : Good o s) {q : Nat} (hq : q < s.cores.length) {c : CoreS} (h1 : 0 ≤ c.pc ∧ c.pc < (o.core q).code.length) (h2 : (c.buf.length : Int) ≤ o.buffer) (h3 : ∀ x ∈ c.buf, 0 ≤ x.addr ∧ x.addr < s.mem.length) : Good o (s.setCore q c) :=
  g.set hq (mem := s.mem) (pr := s.prints) rfl h1 h2 h3
theorem Good.acts {o : Obj} {s : Mach} (g : Good o s) (ok : ObjOk o) {q : Nat} (hq : q < s.cores.length) (did : DidS) (hdp : did.pc = (s.core q).pc) (hst : stallsF o s q (instrAt o s q) = false) : Good o (act (s.inc q) q (instrAt o s q) did).1 := by
  have hqo : q < o.cores.length := by rw [← g.n]; exact hq
  have iok : ActOk (instrAt o s q) (o.core q).code.length o.mem.length := instrOk_act (ok.ok q hqo (s.core q).pc.toNat (by have := g.pc q hq; omega))
  have hp := g.pc q hq
  have hb := g.buf q hq
  have ha := g.addr q hq
  have hpc : (instrAt o s q).kind ≠ 8 → (instrAt o s q).kind ≠ 10 → (s.core q).pc + 1 < (o.core q).code.length := by
    intro h8 h10
    have hl := ok.last q hqo
    have hlc := ok.code q hqo
    simp only [lastOk, Bool.or_eq_true, decide_eq_true_eq] at hl
    refine Decidable.byContradiction fun hn => ?_
    have he : (s.core q).pc.toNat = (((o.core q).code.length : Int) - 1).toNat := by omega
    rw [instrAt, he] at h8 h10
    rcases hl with hl | hl
    · exact h10 hl
    · exact h8 hl
  have hc := inc_core hq
  have hm : (s.inc q).mem = s.mem := rfl
  have hpr : (s.inc q).prints = s.prints := rfl
  generalize instrAt o s q = i at *
  have hk := kinds iok.kind
  by_cases k1 : i.kind = 1
  · simp only [act, if_pos k1, doSet, inc_set, hc]
    exact g.set0 hq ⟨by show 0 ≤ (s.core q).pc + 1; omega, hpc (by omega) (by omega)⟩ hb ha
  by_cases k2 : i.kind = 2
  · simp only [act, if_neg k1, if_pos k2, doOp, inc_set, hc]
    exact g.set0 hq ⟨by show 0 ≤ (s.core q).pc + 1; omega, hpc (by omega) (by omega)⟩ hb ha
  by_cases k3 : i.kind = 3
  · simp only [act, if_neg k1, if_neg k2, if_pos k3, doLoad, inc_set, hc]
    exact g.set0 hq ⟨by show 0 ≤ (s.core q).pc + 1; omega, hpc (by omega) (by omega)⟩ hb ha
  by_cases k4 : i.kind = 4
  · simp only [act, if_neg k1, if_neg k2, if_neg k3, if_pos k4, doStore, inc_set, hc]
    simp only [stallsF, if_pos k4, decide_eq_false_iff_not] at hst
    refine g.set0 hq ⟨by show 0 ≤ (s.core q).pc + 1; omega, hpc (by omega) (by omega)⟩ ?_ ?_
    · show (((s.core q).buf ++ [_]).length : Int) ≤ _
      simp only [List.length_append, List.length_cons, List.length_nil]; omega
    · intro x hx
      rcases List.mem_append.1 hx with hx | hx
      · exact ha x hx
      · simp only [List.mem_singleton] at hx
        subst hx
        have h2 := iok.addr (by omega)
        rw [g.mem]; exact h2
  by_cases k5 : i.kind = 5
  · simp only [act, if_neg k1, if_neg k2, if_neg k3, if_neg k4, if_pos k5, doSwap, inc_set, hc, hm]
    exact g.set hq (by simp) ⟨by show 0 ≤ (s.core q).pc + 1; omega, hpc (by omega) (by omega)⟩ hb ha
  by_cases k6 : i.kind = 6
  · simp only [act, if_neg k1, if_neg k2, if_neg k3, if_neg k4, if_neg k5, if_pos k6, doFence, inc_set, hc]
    exact g.set0 hq ⟨by show 0 ≤ (s.core q).pc + 1; omega, hpc (by omega) (by omega)⟩ hb ha
  by_cases k7 : i.kind = 7
  · simp only [act, if_neg k1, if_neg k2, if_neg k3, if_neg k4, if_neg k5, if_neg k6, if_pos k7, doPrint, inc_set, hc]
    exact g.set hq (mem := s.mem) rfl ⟨by show 0 ≤ (s.core q).pc + 1; omega, hpc (by omega) (by omega)⟩ hb ha
  by_cases k8 : i.kind = 8
  · simp only [act, if_neg k1, if_neg k2, if_neg k3, if_neg k4, if_neg k5, if_neg k6, if_neg k7, if_pos k8, doJump, inc_set, hc]
    exact g.set0 hq (iok.to (by omega)) hb ha
  by_cases k9 : i.kind = 9
  · simp only [act, if_neg k1, if_neg k2, if_neg k3, if_neg k4, if_neg k5, if_neg k6, if_neg k7, if_neg k8, if_pos k9, doZero, inc_set, hc]
    split
    · exact g.set0 hq (iok.to (by omega)) hb ha
    · exact g.set0 hq ⟨by show 0 ≤ (s.core q).pc + 1; omega, hpc (by omega) (by omega)⟩ hb ha
  simp only [act, if_neg k1, if_neg k2, if_neg k3, if_neg k4, if_neg k5, if_neg k6, if_neg k7, if_neg k8, if_neg k9, doHalt, inc_set, hc]
  exact g.set0 hq (by show 0 ≤ did.pc ∧ did.pc < _; rw [hdp]; exact hp) hb ha
theorem Good.run {o : Obj} {s : Mach} (g : Good o s) (ok : ObjOk o) (k : Int) : Good o (runS o s k).1 := by
  rw [runS]
  by_cases h1 : out s k
  · rw [if_pos h1]; exact g
  rw [if_neg h1]
  by_cases h2 : (s.core k.toNat).halted = true
  · rw [if_pos h2]; exact g
  rw [if_neg h2]
  by_cases h3 : stallsF o s k.toNat (instrAt o s k.toNat) = true
  · rw [if_pos h3]; exact g
  rw [if_neg h3]
  exact g.acts ok (by unfold out at h1; omega) _ rfl (by simpa using h3)
theorem Good.drain {o : Obj} {s : Mach} (g : Good o s) (k : Int) : Good o (drainS o s k).1 := by
  rw [drainS]
  by_cases h1 : out s k
  · rw [if_pos h1]; exact g
  rw [if_neg h1]
  have hq : k.toNat < s.cores.length := by unfold out at h1; omega
  have hb := g.buf _ hq
  have ha := g.addr _ hq
  cases hbuf : (s.core k.toNat).buf with
  | nil => exact g
  | cons x t =>
    rw [hbuf] at hb ha
    simp only [List.length_cons] at hb
    exact g.set hq (by simp) (g.pc _ hq) (by show (t.length : Int) ≤ _; omega) (fun y hy => ha y (by simp [hy]))
theorem Good.step {o : Obj} {s : Mach} (g : Good o s) (ok : ObjOk o) (kind k : Int) : Good o (stepS o s kind k).1 := by
  rw [stepS]
  split
  · exact g.run ok k
  · split
    · exact g.drain k
    · exact g
/-- Prints grow by one at most. -/
theorem prints_run (o : Obj) (s : Mach) (k : Int) : (runS o s k).1.prints.length ≤ s.prints.length + 1 := by
  have ha : ∀ (i : Instr) (d : DidS) (q : Nat), (act (s.inc q) q i d).1.prints.length ≤ s.prints.length + 1 := by
    intro i d q
    simp only [act]
    repeat' split
    all_goals simp [doSet, doOp, doLoad, doStore, doSwap, doFence, doPrint, doJump, doZero, doHalt, Mach.setCore, Mach.inc]
  rw [runS]
  repeat' split
  all_goals first | exact ha _ _ _ | simp
theorem prints_step (o : Obj) (s : Mach) (kind k : Int) : (stepS o s kind k).1.prints.length ≤ s.prints.length + 1 := by
  rw [stepS]
  split
  · exact prints_run o s k
  · split
    · rw [drainS]
      repeat' split
      all_goals simp [Mach.setCore]
    · simp
theorem cores_run (o : Obj) (s : Mach) (kind k : Int) (g : Good o s) (ok : ObjOk o) : (stepS o s kind k).1.cores.length = s.cores.length := (g.step ok kind k).n.trans g.n.symm
end Go.Proofs.Ytliabecchkolgaa
/- What the laws ask of a machine. -/
namespace Go.Proofs.Ytliabecchkolgaa
open Go Go.Abs Go.Proofs
set_option linter.unusedSimpArgs false
set_option linter.unusedVariables false
def Made (o : Obj) (H : Hp) (nx : Nat) : AV → Hp → Nat → Prop := fun r H' n => ∃ L, r = .tup [.pt L.m 1 0 0, bl true] ∧ MAt o (initM o) L H' n ∧ nx ≤ n ∧ (∀ b ∈ L.ids, nx ≤ b) ∧ ∀ b, b < nx → getH H' b = getH H b
theorem made_ok {o : Obj} (ho : o.Wf) (h : objOk o = true) {H : Hp} {nx : Nat} : CallN Try.prog 13 [o.av] H nx (Made o H nx) := by
  refine Go.fn Try.func13 nm13 low13 res13 nt13 rfl ?_
  repeat' (first
    | ((with_reducible refine Go.red ?_); conv => whnf)
    | (with_reducible refine Go.and ?_ ?_)
    | (with_reducible exact True.intro)
    | (with_reducible refine Go.far ?_)
    | ((with_reducible refine Apt.mk ?_); (try dsimp only); omega)
    | ((with_reducible refine Ask.mk ?_); first | exact aAsk | exact aAsk2)
    | ((with_reducible refine Go.ari64 ?_ ?_ ?_); (· exact aBnd); (· exact aBnd))
    | ((with_reducible refine Go.ariu8 ?_ ?_ ?_); (· exact aBnd); (· exact aBnd))
    | (with_reducible refine Go.ari0 ?_)
    | (apply Go.elem; (· exact aElem))
    | (apply Go.row; (· exact aRow))
    | (apply Go.gives; (· exact aGives))
    | (apply Go.gives; (· exact aRes))
    | (with_reducible refine Go.unroll ?_)
    | (with_reducible refine Go.drawn ?_)
    | (refine Go.gt rfl ?_)
    | (refine Go.gf rfl ?_)
    | (with_reducible refine Go.join ?_)
    | (refine Go.lt' rfl ?_)
    | (refine Go.lf' rfl ?_)
    | ((with_reducible refine Go.bool ?_ ?_) <;> intro hc <;> (try simp only [List.length_map, ne_eq, hcs] at hc) <;> try (exfalso; omega))
    | ((with_reducible refine Res.eq ?_ ?_); (· exact aFit)))
  refine Go.callN (new_ok ho (objOk_ok h) h) ?_
  rintro _ H2 n2 ⟨L, rfl, hM, h1, h2, h3⟩
  have e1 : nx + 4 ≤ n2 := Nat.le_trans aNx h1
  have e2 : ∀ b ∈ L.ids, nx + 4 ≤ b := fun b hb => Nat.le_trans aNx (h2 b hb)
  have hfr : ∀ b, b < nx → getH H2 b = getH H b := fun b hb => (h3 b aNx).trans (by repeat (first | exact rfl | (refine Eq.trans (getH_skipEq (by omega)) ?_)))
  clear h1 h2 h3
  repeat' (first
    | ((with_reducible refine Go.red ?_); conv => whnf)
    | (with_reducible refine Go.and ?_ ?_)
    | (with_reducible exact True.intro)
    | (with_reducible refine Go.far ?_)
    | ((with_reducible refine Apt.mk ?_); (try dsimp only); omega)
    | ((with_reducible refine Ask.mk ?_); first | exact aAsk | exact aAsk2)
    | ((with_reducible refine Go.ari64 ?_ ?_ ?_); (· exact aBnd); (· exact aBnd))
    | ((with_reducible refine Go.ariu8 ?_ ?_ ?_); (· exact aBnd); (· exact aBnd))
    | (with_reducible refine Go.ari0 ?_)
    | (apply Go.elem; (· exact aElem))
    | (apply Go.row; (· exact aRow))
    | (apply Go.gives; (· exact aGives))
    | (apply Go.gives; (· exact aRes))
    | (with_reducible refine Go.unroll ?_)
    | (with_reducible refine Go.drawn ?_)
    | (refine Go.gt rfl ?_)
    | (refine Go.gf rfl ?_)
    | (with_reducible refine Go.join ?_)
    | (refine Go.lt' rfl ?_)
    | (refine Go.lf' rfl ?_)
    | ((with_reducible refine Go.bool ?_ ?_) <;> intro hc <;> (try simp only [List.length_map, ne_eq, hcs] at hc) <;> try (exfalso; omega))
    | ((with_reducible refine Res.eq ?_ ?_); (· exact aFit)))
  exact ⟨L, rfl, hM.keep aKeep aNx, aNx, fun b hb => by have := e2 b hb; omega, (by intro _b _hb; repeat (first | exact hfr _ _hb | exact rfl | (refine Eq.trans (getH_skipEq (by first | omega | (simp only [List.length_cons, List.length_nil]; omega))) ?_)))⟩
theorem made_bad {o : Obj} (ho : o.Wf) (h : objOk o = false) {H : Hp} {nx : Nat} : CallN Try.prog 13 [o.av] H nx (Kept H nx (.tup [.sc (.pointer none), bl false])) := by
  refine Go.fn Try.func13 nm13 low13 res13 nt13 rfl ?_
  repeat' (first
    | ((with_reducible refine Go.red ?_); conv => whnf)
    | (with_reducible refine Go.and ?_ ?_)
    | (with_reducible exact True.intro)
    | (with_reducible refine Go.far ?_)
    | ((with_reducible refine Apt.mk ?_); (try dsimp only); omega)
    | ((with_reducible refine Ask.mk ?_); first | exact aAsk | exact aAsk2)
    | ((with_reducible refine Go.ari64 ?_ ?_ ?_); (· exact aBnd); (· exact aBnd))
    | ((with_reducible refine Go.ariu8 ?_ ?_ ?_); (· exact aBnd); (· exact aBnd))
    | (with_reducible refine Go.ari0 ?_)
    | (apply Go.elem; (· exact aElem))
    | (apply Go.row; (· exact aRow))
    | (apply Go.gives; (· exact aGives))
    | (apply Go.gives; (· exact aRes))
    | (with_reducible refine Go.unroll ?_)
    | (with_reducible refine Go.drawn ?_)
    | (refine Go.gt rfl ?_)
    | (refine Go.gf rfl ?_)
    | (with_reducible refine Go.join ?_)
    | (refine Go.lt' rfl ?_)
    | (refine Go.lf' rfl ?_)
    | ((with_reducible refine Go.bool ?_ ?_) <;> intro hc <;> (try simp only [List.length_map, ne_eq, hcs] at hc) <;> try (exfalso; omega))
    | ((with_reducible refine Res.eq ?_ ?_); (· exact aFit)))
  refine Go.callN (new_bad ho h) ?_
  rintro _ H2 n2 ⟨rfl, h1, h3⟩
  have e1 : nx + 4 ≤ n2 := Nat.le_trans aNx h1
  have hfr : ∀ b, b < nx → getH H2 b = getH H b := fun b hb => (h3 b aNx).trans (by repeat (first | exact rfl | (refine Eq.trans (getH_skipEq (by omega)) ?_)))
  clear h1 h3
  repeat' (first
    | ((with_reducible refine Go.red ?_); conv => whnf)
    | (with_reducible refine Go.and ?_ ?_)
    | (with_reducible exact True.intro)
    | (with_reducible refine Go.far ?_)
    | ((with_reducible refine Apt.mk ?_); (try dsimp only); omega)
    | ((with_reducible refine Ask.mk ?_); first | exact aAsk | exact aAsk2)
    | ((with_reducible refine Go.ari64 ?_ ?_ ?_); (· exact aBnd); (· exact aBnd))
    | ((with_reducible refine Go.ariu8 ?_ ?_ ?_); (· exact aBnd); (· exact aBnd))
    | (with_reducible refine Go.ari0 ?_)
    | (apply Go.elem; (· exact aElem))
    | (apply Go.row; (· exact aRow))
    | (apply Go.gives; (· exact aGives))
    | (apply Go.gives; (· exact aRes))
    | (with_reducible refine Go.unroll ?_)
    | (with_reducible refine Go.drawn ?_)
    | (refine Go.gt rfl ?_)
    | (refine Go.gf rfl ?_)
    | (with_reducible refine Go.join ?_)
    | (refine Go.lt' rfl ?_)
    | (refine Go.lf' rfl ?_)
    | ((with_reducible refine Go.bool ?_ ?_) <;> intro hc <;> (try simp only [List.length_map, ne_eq, hcs] at hc) <;> try (exfalso; omega))
    | ((with_reducible refine Res.eq ?_ ?_); (· exact aFit)))
  exact ⟨rfl, aNx, (by intro _b _hb; repeat (first | exact hfr _ _hb | exact rfl | (refine Eq.trans (getH_skipEq (by first | omega | (simp only [List.length_cons, List.length_nil]; omega))) ?_)))⟩
theorem words_call {H : Hp} {nx b1 b2 : Nat} {d1 d2 : AV} {l1 l2 : List Int} (h1 : getH H b1 = some (.row 2 1 d1 (l1.map i64))) (h2 : getH H b2 = some (.row 2 1 d2 (l2.map i64))) (n1 : b1 < nx) (n2 : b2 < nx) (hs : l1.length ≤ 140737488355328) {k1 k2 : Nat} (e1 : l1.length = k1) (e2 : l2.length = k2) :
    Look Try.prog 17 [.sl b1 k1, .sl b2 k2] H nx (bl (decide (l1 = l2))) := by
  subst e1 e2
  refine Go.lookAt Try.func17 nm17 low17 res17 nt17 rfl ?_
  repeat' (first
    | ((with_reducible refine Go.red ?_); conv => whnf)
    | (with_reducible refine Go.and ?_ ?_)
    | (with_reducible exact True.intro)
    | (with_reducible refine Go.far ?_)
    | ((with_reducible refine Apt.mk ?_); (try dsimp only); omega)
    | ((with_reducible refine Ask.mk ?_); first | exact aAsk | exact aAsk2)
    | ((with_reducible refine Go.ari64 ?_ ?_ ?_); (· exact aBnd); (· exact aBnd))
    | ((with_reducible refine Go.ariu8 ?_ ?_ ?_); (· exact aBnd); (· exact aBnd))
    | (with_reducible refine Go.ari0 ?_)
    | (apply Go.elem; (· exact aElem))
    | (apply Go.row; (· exact aRow))
    | (apply Go.gives; (· exact aGives))
    | (apply Go.gives; (· exact aRes))
    | (with_reducible refine Go.unroll ?_)
    | (with_reducible refine Go.drawn ?_)
    | (refine Go.gt rfl ?_)
    | (refine Go.gf rfl ?_)
    | (with_reducible refine Go.join ?_)
    | (refine Go.lt' rfl ?_)
    | (refine Go.lf' rfl ?_)
    | ((with_reducible refine Go.bool ?_ ?_) <;> intro hc <;> (try simp only [List.length_map, ne_eq, hcs] at hc) <;> try (exfalso; omega))
    | ((with_reducible refine Res.eq ?_ ?_); (· exact aFit)))
  · refine ResN.look ?_ aKeep
    rw [decide_eq_false (fun h => by rw [h] at hc; exact hc rfl)]
  · refine Go.loop (fun i : Nat => [(0, .sl b1 l1.length), (1, .sl b2 l2.length), (5, i64 i)]) (fun i H' n => i ≤ l1.length ∧ nx ≤ n ∧ (∀ b, b < nx → getH H' b = getH H b) ∧ ∀ j, j < i → l1.getD j default = l2.getD j default) (fun i => l1.length - i) 0 aLess ⟨Nat.zero_le _, aNx, aKeep, fun j hj => by omega⟩ ?_
    rintro i H' n ⟨hi, hn, hfr, hs2⟩
    have g1 := (hfr _ n1).trans h1
    have g2 := (hfr _ n2).trans h2
    repeat' (first
        | ((with_reducible refine Go.red ?_); conv => whnf)
        | (with_reducible refine Go.and ?_ ?_)
        | (with_reducible exact True.intro)
        | (with_reducible refine Go.far ?_)
        | ((with_reducible refine Apt.mk ?_); (try dsimp only); omega)
        | ((with_reducible refine Ask.mk ?_); first | exact aAsk | exact aAsk2)
        | ((with_reducible refine Go.ari64 ?_ ?_ ?_); (· exact aBnd); (· exact aBnd))
        | ((with_reducible refine Go.ariu8 ?_ ?_ ?_); (· exact aBnd); (· exact aBnd))
        | (with_reducible refine Go.ari0 ?_)
        | (apply Go.elem; (· exact aElem))
        | (apply Go.row; (· exact aRow))
        | (apply Go.gives; (· exact aGives))
        | (apply Go.gives; (· exact aRes))
        | (with_reducible refine Go.unroll ?_)
        | (with_reducible refine Go.drawn ?_)
        | (refine Go.gt rfl ?_)
        | (refine Go.gf rfl ?_)
        | (with_reducible refine Go.join ?_)
        | (refine Go.lt' rfl ?_)
        | (refine Go.lf' rfl ?_)
        | ((with_reducible refine Go.bool ?_ ?_) <;> intro hc <;> (try simp only [List.length_map, ne_eq, hcs] at hc) <;> try (exfalso; omega))
        | ((with_reducible refine Res.eq ?_ ?_); (· exact aFit)))
    · refine ResN.look ?_ (by intro _b _hb; repeat (first | exact hfr _ _hb | exact rfl | (refine Eq.trans (getH_skipEq (by first | omega | (simp only [List.length_cons, List.length_nil]; omega))) ?_)))
      rw [decide_eq_false]
      intro h; rw [h] at hc
      simp at hc
    · refine ⟨i + 1, by omega, aLess, by omega, aNx, (by intro _b _hb; repeat (first | exact hfr _ _hb | exact rfl | (refine Eq.trans (getH_skipEq (by first | omega | (simp only [List.length_cons, List.length_nil]; omega))) ?_))), fun j hj => ?_⟩
      by_cases hji : j = i
      · subst hji; simpa using hc
      · exact hs2 j (by omega)
    · refine ResN.look ?_ (by intro _b _hb; repeat (first | exact hfr _ _hb | exact rfl | (refine Eq.trans (getH_skipEq (by first | omega | (simp only [List.length_cons, List.length_nil]; omega))) ?_)))
      have he : l1 = l2 := by
        apply List.ext_getElem (by omega)
        intro j p1 p2
        have := hs2 j (by omega)
        simpa [List.getD, p1, p2] using this
      rw [decide_eq_true he]
end Go.Proofs.Ytliabecchkolgaa
