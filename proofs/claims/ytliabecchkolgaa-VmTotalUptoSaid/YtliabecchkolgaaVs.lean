/- One round with the store drained right behind it. -/
import Derived.Test.YtliabecchkolgaaVp
namespace Go.Proofs.Ytliabecchkolgaa
open Go Go.Abs Go.Proofs
set_option linter.unusedSimpArgs false
set_option linter.unusedVariables false
def Empty (s : Mach) : Prop := ∀ q, q < s.cores.length → (s.core q).buf = []
structure Round (o : Obj) (s : Mach) (q : Nat) (d : DidS) (e : Int) (s2 : Mach) : Prop where
  e : e = 0
  own : d.own = false
  load : d.kind = 2 → 0 ≤ d.addr ∧ d.addr < s.mem.length ∧ d.word = s.mem.getD d.addr.toNat 0
  store : d.kind = 3 → 0 ≤ d.addr ∧ d.addr < s.mem.length
  swap : d.kind = 4 → 0 ≤ d.addr ∧ d.addr < s.mem.length ∧ d.word = s.mem.getD d.addr.toNat 0
  empty : Empty s2
  kd : d.kind = 0 ∨ d.kind = 1 ∨ d.kind = 2 ∨ d.kind = 3 ∨ d.kind = 4 ∨ d.kind = 5 ∨ d.kind = 6 ∨ d.kind = 7
  mem : s2.mem = if d.kind = 3 then s.mem.set d.addr.toNat d.word else if d.kind = 4 then s.mem.set d.addr.toNat d.put else s.mem
theorem empty_init (o : Obj) : Empty (initM o) := by
  intro q hq
  simp only [initM, List.length_replicate] at hq
  simp [initM, List.getD, hq, core0]
theorem stalls_empty {o : Obj} {s : Mach} (ok : ObjOk o) {q : Nat} (h : (s.core q).buf = []) (i : Instr) : stallsF o s q i = false := by
  have := ok.buffer
  simp only [stallsF, h, List.length_nil]
  split
  · simp; omega
  · split <;> simp
theorem drain_empty {o : Obj} {s : Mach} {q : Nat} (hq : q < s.cores.length) (h : (s.core q).buf = []) : drainS o s q = (s, did0, 0) := by
  have : ¬ out s q := by unfold out; omega
  rw [drainS, if_neg this, Int.toNat_natCast, h]
theorem empty_set {s : Mach} (h : Empty s) {q : Nat} (hq : q < s.cores.length) {c : CoreS} (hc : c.buf = []) (mem : List Int) (pr : List PrintS) : Empty { s.setCore q c with mem := mem, prints := pr } := by
  intro j hj
  have e : ({ s.setCore q c with mem := mem, prints := pr } : Mach).core j = if j = q then c else s.core j := core_set hq c j
  rw [e]
  split
  · exact hc
  · exact h j (by simpa [Mach.setCore] using hj)
theorem round_in {o : Obj} {s : Mach} (g : Good o s) (ok : ObjOk o) (he : Empty s) {q : Nat} (hq : q < s.cores.length) : Round o s q (runS o s q).2.1 (runS o s q).2.2 (drainS o (runS o s q).1 q).1 := by
  have ho : ¬ out s q := by unfold out; omega
  have hb := he q hq
  have hqo : q < o.cores.length := by rw [← g.n]; exact hq
  have iok : ActOk (instrAt o s q) (o.core q).code.length o.mem.length := instrOk_act (ok.ok q hqo (s.core q).pc.toNat (by have := g.pc q hq; omega))
  rw [runS, if_neg ho, Int.toNat_natCast]
  by_cases hh : (s.core q).halted = true
  · rw [if_pos hh, drain_empty hq hb]
    exact ⟨rfl, rfl, by simp [did0], by simp [did0], by simp [did0], he, by simp [did0], by simp [did0]⟩
  rw [if_neg hh, if_neg (by rw [stalls_empty ok hb]; simp)]
  have hc := inc_core hq
  have hm : (s.inc q).mem = s.mem := rfl
  have hk := kinds iok.kind
  have hmm : ∀ c : CoreS, (s.setCore q c).mem = s.mem := fun _ => rfl
  have hbuf : ∀ (c : CoreS) (mem : List Int) (pr : List PrintS), c.buf = [] → drainS o { s.setCore q c with mem := mem, prints := pr } q = ({ s.setCore q c with mem := mem, prints := pr }, did0, 0) := by
    intro c mem pr hcb
    refine drain_empty (by simpa [Mach.setCore] using hq) ?_
    have e : ({ s.setCore q c with mem := mem, prints := pr } : Mach).core q = if q = q then c else s.core q := core_set hq c q
    rw [e, if_pos rfl]; exact hcb
  have hbuf0 : ∀ (c : CoreS), c.buf = [] → drainS o (s.setCore q c) q = (s.setCore q c, did0, 0) := fun c h => hbuf c s.mem s.prints h
  have hes : ∀ (c : CoreS), c.buf = [] → Empty (s.setCore q c) := fun c h => empty_set he hq h s.mem s.prints
  generalize instrAt o s q = i at *
  have hadr := iok.addr
  rw [← g.mem] at hadr
  by_cases k1 : i.kind = 1
  · simp only [act, if_pos k1, doSet, inc_set, hc]
    rw [hbuf0 _ (by simpa [CoreS.put] using hb)]
    exact ⟨rfl, rfl, by simp, by simp, by simp, hes _ (by simpa [CoreS.put] using hb), by simp [did0], by simp [Mach.setCore]⟩
  by_cases k2 : i.kind = 2
  · simp only [act, if_neg k1, if_pos k2, doOp, inc_set, hc]
    rw [hbuf0 _ (by simpa [CoreS.put] using hb)]
    exact ⟨rfl, rfl, by simp, by simp, by simp, hes _ (by simpa [CoreS.put] using hb), by simp [did0], by simp [Mach.setCore]⟩
  by_cases k3 : i.kind = 3
  · simp only [act, if_neg k1, if_neg k2, if_pos k3, doLoad, inc_set, hc, hb, seenF, hm]
    rw [hbuf0 _ (by simp [CoreS.put])]
    exact ⟨rfl, rfl, fun _ => ⟨(hadr (by omega)).1, (hadr (by omega)).2, rfl⟩, by simp, by simp, hes _ (by simp [CoreS.put]), by simp [did0], by simp [Mach.setCore]⟩
  by_cases k4 : i.kind = 4
  · simp only [act, if_neg k1, if_neg k2, if_neg k3, if_pos k4, doStore, inc_set, hc, hb, List.nil_append]
    have hd : ∀ (c : CoreS) (x : StoreS), c.buf = [x] → (drainS o (s.setCore q c) q).1 = { s.setCore q { c with buf := [] } with mem := s.mem.set x.addr.toNat x.word } := by
      intro c x hcx
      have hq2 : q < (s.setCore q c).cores.length := by simpa [Mach.setCore] using hq
      have h1 : ¬ out (s.setCore q c) q := by unfold out; omega
      have h2 : (s.setCore q c).core q = c := by rw [core_set hq, if_pos rfl]
      rw [drainS, if_neg h1, Int.toNat_natCast, h2, hcx]
      simp [Mach.setCore]
    rw [hd _ _ rfl]
    exact ⟨rfl, rfl, by simp, fun _ => hadr (by omega), by simp, empty_set he hq rfl _ _, by simp [did0], by simp⟩
  by_cases k5 : i.kind = 5
  · simp only [act, if_neg k1, if_neg k2, if_neg k3, if_neg k4, if_pos k5, doSwap, inc_set, hc, hm]
    rw [hbuf _ _ _ (by simpa [CoreS.put] using hb)]
    exact ⟨rfl, rfl, by simp, by simp, fun _ => ⟨(hadr (by omega)).1, (hadr (by omega)).2, rfl⟩, empty_set he hq (by simpa [CoreS.put] using hb) _ _, by simp [did0], by simp [CoreS.put]⟩
  by_cases k6 : i.kind = 6
  · simp only [act, if_neg k1, if_neg k2, if_neg k3, if_neg k4, if_neg k5, if_pos k6, doFence, inc_set, hc]
    rw [hbuf0 _ (by simpa using hb)]
    exact ⟨rfl, rfl, by simp, by simp, by simp, hes _ hb, by simp [did0], by simp [Mach.setCore]⟩
  by_cases k7 : i.kind = 7
  · simp only [act, if_neg k1, if_neg k2, if_neg k3, if_neg k4, if_neg k5, if_neg k6, if_pos k7, doPrint, inc_set, hc, hmm]
    rw [hbuf _ s.mem _ (by simpa using hb)]
    exact ⟨rfl, rfl, by simp, by simp, by simp, empty_set he hq (by simpa using hb) _ _, by simp [did0], by simp [Mach.inc, Mach.setCore]⟩
  by_cases k8 : i.kind = 8
  · simp only [act, if_neg k1, if_neg k2, if_neg k3, if_neg k4, if_neg k5, if_neg k6, if_neg k7, if_pos k8, doJump, inc_set, hc]
    rw [hbuf0 _ (by simpa using hb)]
    exact ⟨rfl, rfl, by simp, by simp, by simp, hes _ hb, by simp [did0], by simp [Mach.setCore]⟩
  by_cases k9 : i.kind = 9
  · simp only [act, if_neg k1, if_neg k2, if_neg k3, if_neg k4, if_neg k5, if_neg k6, if_neg k7, if_neg k8, if_pos k9, doZero, inc_set, hc]
    rw [hbuf0 _ (by split <;> exact hb)]
    exact ⟨rfl, rfl, by simp, by simp, by simp, hes _ (by split <;> exact hb), by simp [did0], by simp [Mach.setCore]⟩
  simp only [act, if_neg k1, if_neg k2, if_neg k3, if_neg k4, if_neg k5, if_neg k6, if_neg k7, if_neg k8, if_neg k9, doHalt, inc_set, hc]
  rw [hbuf0 _ (by simpa using hb)]
  exact ⟨rfl, rfl, by simp, by simp, by simp, hes _ hb, by simp [did0], by simp [Mach.setCore]⟩
end Go.Proofs.Ytliabecchkolgaa
/- A machine that is looked at alone. -/
namespace Go.Proofs.Ytliabecchkolgaa
open Go Go.Abs Go.Proofs
set_option linter.unusedSimpArgs false
set_option linter.unusedVariables false
abbrev CoreS.frozen (c : CoreS) : AV := .agg (c.cells (.im 3 .any (c.buf.map StoreS.av)))
def Mach.frozen (o : Obj) (s : Mach) : AV := .ip 8 .any [.agg [.sc (.slice none 0 0), i64 o.shared, i64 o.locks, i64 o.buffer, .im 2 .any (o.cores.map Core.av), .im 19 .any (s.cores.map CoreS.frozen), .im 1 .any (s.mem.map i64), .im 2 .any (s.prints.map PrintS.av)]] 0 0
theorem MAt.frz {o : Obj} {s : Mach} {L : Lay} {H : Hp} {nx : Nat} (h : MAt o s L H nx) : frz H 6 (.pt L.m 1 0 0) = s.frozen o := by
  obtain ⟨d1, h1⟩ := h.m
  obtain ⟨d2, h2⟩ := h.c
  obtain ⟨d3, h3⟩ := h.mem
  obtain ⟨d4, h4⟩ := h.pr
  have hcores : (rows s L).map (Abs.frz H 3) = s.cores.map CoreS.frozen := by
    apply List.ext_getElem
    · simp [rows, h.lens]
    · intro i p1 p2
      have hi : i < s.cores.length := by simpa using p2
      have hib : i < L.bufs.length := by rw [h.lens]; exact hi
      obtain ⟨d5, h5⟩ := h.bufs i hi
      have e1 : L.bufs.getD i 0 = L.bufs[i] := by simp [List.getD, hib]
      have e2 : s.cores.getD i default = s.cores[i] := by simp [List.getD, hi]
      rw [e1, e2] at h5
      simp only [List.getElem_map, rows, List.getElem_zipWith, CoreS.av, Abs.frz, CoreS.cells, List.map_cons, List.map_nil, frz_sc, h5]
      rw [if_pos (by simp), frz_same 1 (by simp [fitL_map, fitA, fitL])]
      rfl
  rw [frz_at (len := 1) h1 (by rfl), Mach.frozen]
  simp only [List.map_cons, List.map_nil, Abs.frz, frz_sc, h2, h3, h4]
  rw [if_pos (rows_len h), if_pos (by simp), if_pos (by simp), hcores, frz_same 3 (by simp [fitL_map, fitA]), frz_same 3 (by simp [fitL_map, fitA, fitL])]
theorem fit_frozen (o : Obj) (s : Mach) : fitA 0 (s.frozen o) := by
  simp [Mach.frozen, fitA, fitL, fitL_map, CoreS.cells]
theorem cores_pure (o : Obj) (s : Mach) : Pure Try.prog 15 [s.frozen o] (fun r => r = i64 s.cores.length) := by
  refine Go.pure Try.func15 nm15 low15 res15 nt15 rfl ?_
  repeat' (first
    | ((with_reducible refine Go.red ?_); conv => whnf)
    | (with_reducible refine Go.and ?_ ?_)
    | (with_reducible exact True.intro)
    | (with_reducible refine Go.far ?_)
    | ((with_reducible refine Apt.mk ?_); (try dsimp only); omega)
    | ((with_reducible refine Ask.mk ?_); first | exact aAsk | exact aAsk2)
    | ((with_reducible refine Go.ari64 ?_ ?_ ?_); (· exact aBnd); (· exact aBnd))
    | ((with_reducible refine Go.ariu8 ?_ ?_ ?_); (· exact aBnd); (· exact aBnd))
    | (with_reducible refine Go.ari0 ?_)
    | (apply Go.elem; (· exact aElem))
    | (apply Go.row; (· exact aRow))
    | (apply Go.gives; (· exact aGives))
    | (apply Go.gives; (· exact aRes))
    | (with_reducible refine Go.unroll ?_)
    | (with_reducible refine Go.drawn ?_)
    | (refine Go.gt rfl ?_)
    | (refine Go.gf rfl ?_)
    | (with_reducible refine Go.join ?_)
    | (refine Go.lt' rfl ?_)
    | (refine Go.lf' rfl ?_)
    | ((with_reducible refine Go.bool ?_ ?_) <;> intro hc <;> (try simp only [List.length_map, ne_eq, hcs] at hc) <;> try (exfalso; omega))
    | ((with_reducible refine Res.eq ?_ ?_); (· exact aFit)))
  rw [List.length_map]
end Go.Proofs.Ytliabecchkolgaa
/- What a step does, told by what it says that it did. -/
namespace Go.Proofs.Ytliabecchkolgaa
open Go Go.Abs Go.Proofs
set_option linter.unusedSimpArgs false
set_option linter.unusedVariables false
/-- A step of core q that did something. -/
structure Does (s : Mach) (q : Nat) (d : DidS) (s2 : Mach) : Prop where
  lt : q < s.cores.length
  core : d.core = q
  kind : 1 ≤ d.kind ∧ d.kind ≤ 8
  other : ∀ j, j ≠ q → s2.core j = s.core j
  buf : (s2.core q).buf = if d.kind = 3 then (s.core q).buf ++ [⟨d.pc, d.addr, d.word⟩] else if d.kind = 8 then (s.core q).buf.tail else (s.core q).buf
  drain : d.kind = 8 → (s.core q).buf = ⟨d.pc, d.addr, d.word⟩ :: (s.core q).buf.tail
  wait : d.kind = 4 ∨ d.kind = 5 ∨ d.kind = 6 → (s.core q).buf = []
  addr : d.kind = 2 ∨ d.kind = 3 ∨ d.kind = 4 ∨ d.kind = 8 → 0 ≤ d.addr ∧ d.addr < s.mem.length
  load : d.kind = 2 → (d.word, d.own) = seenF d.addr (s.core q).buf (s.mem.getD d.addr.toNat 0, false)
  swap : d.kind = 4 → d.word = s.mem.getD d.addr.toNat 0
  mem : s2.mem = if d.kind = 4 then s.mem.set d.addr.toNat d.put else if d.kind = 8 then s.mem.set d.addr.toNat d.word else s.mem
  prints : s2.prints = if d.kind = 6 then s.prints ++ [⟨q, d.word⟩] else s.prints
theorem core_set2 {s : Mach} {q : Nat} (hq : q < s.cores.length) (c : CoreS) (mem : List Int) (pr : List PrintS) (j : Nat) : ({ s.setCore q c with mem := mem, prints := pr } : Mach).core j = if j = q then c else s.core j := core_set hq c j
theorem does_act {o : Obj} {s : Mach} (g : Good o s) (ok : ObjOk o) {q : Nat} (hq : q < s.cores.length) (hst : stallsF o s q (instrAt o s q) = false) :
    Does s q (act (s.inc q) q (instrAt o s q) { did0 with core := q, pc := (s.core q).pc }).2 (act (s.inc q) q (instrAt o s q) { did0 with core := q, pc := (s.core q).pc }).1 := by
  have hqo : q < o.cores.length := by rw [← g.n]; exact hq
  have iok : ActOk (instrAt o s q) (o.core q).code.length o.mem.length := instrOk_act (ok.ok q hqo (s.core q).pc.toNat (by have := g.pc q hq; omega))
  have hc := inc_core hq
  have hm : (s.inc q).mem = s.mem := rfl
  have hpr : (s.inc q).prints = s.prints := rfl
  have hk := kinds iok.kind
  have hmm : ∀ c : CoreS, (s.setCore q c).mem = s.mem := fun _ => rfl
  have hpp : ∀ c : CoreS, (s.setCore q c).prints = s.prints := fun _ => rfl
  have oth : ∀ (c : CoreS) (mem : List Int) (pr : List PrintS) j, j ≠ q → ({ s.setCore q c with mem := mem, prints := pr } : Mach).core j = s.core j := fun c mem pr j hj => by rw [core_set2 hq, if_neg hj]
  have oth0 : ∀ (c : CoreS) j, j ≠ q → (s.setCore q c).core j = s.core j := fun c j hj => by rw [core_set hq, if_neg hj]
  have slf : ∀ (c : CoreS) (mem : List Int) (pr : List PrintS), ({ s.setCore q c with mem := mem, prints := pr } : Mach).core q = c := fun c mem pr => by rw [core_set2 hq, if_pos rfl]
  have slf0 : ∀ (c : CoreS), (s.setCore q c).core q = c := fun c => by rw [core_set hq, if_pos rfl]
  have hadr := iok.addr
  rw [← g.mem] at hadr
  have hwait : (instrAt o s q).kind = 5 ∨ (instrAt o s q).kind = 6 ∨ (instrAt o s q).kind = 7 → (s.core q).buf = [] := by
    intro h
    rw [stallsF, if_neg (by omega), if_pos h] at hst
    simp only [decide_eq_false_iff_not] at hst
    exact List.eq_nil_of_length_eq_zero (by omega)
  generalize instrAt o s q = i at *
  by_cases k1 : i.kind = 1
  · simp only [act, if_pos k1, doSet, inc_set, hc]
    exact ⟨hq, rfl, by simp, oth0 _, by rw [slf0]; simp [CoreS.put], by simp, by simp, by simp, by simp, by simp, by simp [hmm], by simp [hpp]⟩
  by_cases k2 : i.kind = 2
  · simp only [act, if_neg k1, if_pos k2, doOp, inc_set, hc]
    exact ⟨hq, rfl, by simp, oth0 _, by rw [slf0]; simp [CoreS.put], by simp, by simp, by simp, by simp, by simp, by simp [hmm], by simp [hpp]⟩
  by_cases k3 : i.kind = 3
  · simp only [act, if_neg k1, if_neg k2, if_pos k3, doLoad, inc_set, hc, hm]
    exact ⟨hq, rfl, by simp, oth0 _, by rw [slf0]; simp [CoreS.put], by simp, by simp, fun _ => hadr (by omega), fun _ => rfl, by simp, by simp [hmm], by simp [hpp]⟩
  by_cases k4 : i.kind = 4
  · simp only [act, if_neg k1, if_neg k2, if_neg k3, if_pos k4, doStore, inc_set, hc]
    exact ⟨hq, rfl, by simp, oth0 _, by rw [slf0]; simp, by simp, by simp, fun _ => hadr (by omega), by simp, by simp, by simp [hmm], by simp [hpp]⟩
  by_cases k5 : i.kind = 5
  · simp only [act, if_neg k1, if_neg k2, if_neg k3, if_neg k4, if_pos k5, doSwap, inc_set, hc, hm]
    exact ⟨hq, rfl, by simp, oth _ _ _, by rw [slf]; simp [CoreS.put], by simp, fun _ => hwait (by omega), fun _ => hadr (by omega), by simp, fun _ => rfl, by simp [CoreS.put], by simp [hpp]⟩
  by_cases k6 : i.kind = 6
  · simp only [act, if_neg k1, if_neg k2, if_neg k3, if_neg k4, if_neg k5, if_pos k6, doFence, inc_set, hc]
    exact ⟨hq, rfl, by simp, oth0 _, by rw [slf0]; simp, by simp, fun _ => hwait (by omega), by simp, by simp, by simp, by simp [hmm], by simp [hpp]⟩
  by_cases k7 : i.kind = 7
  · simp only [act, if_neg k1, if_neg k2, if_neg k3, if_neg k4, if_neg k5, if_neg k6, if_pos k7, doPrint, inc_set, hc, hmm, hpr]
    exact ⟨hq, rfl, by simp, oth _ _ _, by rw [slf]; simp, by simp, fun _ => hwait (by omega), by simp, by simp, by simp, by simp [hm], by simp⟩
  by_cases k8 : i.kind = 8
  · simp only [act, if_neg k1, if_neg k2, if_neg k3, if_neg k4, if_neg k5, if_neg k6, if_neg k7, if_pos k8, doJump, inc_set, hc]
    exact ⟨hq, rfl, by simp, oth0 _, by rw [slf0]; simp, by simp, by simp, by simp, by simp, by simp, by simp [hmm], by simp [hpp]⟩
  by_cases k9 : i.kind = 9
  · simp only [act, if_neg k1, if_neg k2, if_neg k3, if_neg k4, if_neg k5, if_neg k6, if_neg k7, if_neg k8, if_pos k9, doZero, inc_set, hc]
    exact ⟨hq, rfl, by simp, oth0 _, by rw [slf0]; split <;> simp, by simp, by simp, by simp, by simp, by simp, by simp [hmm], by simp [hpp]⟩
  simp only [act, if_neg k1, if_neg k2, if_neg k3, if_neg k4, if_neg k5, if_neg k6, if_neg k7, if_neg k8, if_neg k9, doHalt, inc_set, hc]
  exact ⟨hq, rfl, by simp, oth0 _, by rw [slf0]; simp, by simp, by simp, by simp, by simp, by simp, by simp [hmm], by simp [hpp]⟩
/-- A step does nothing, or something. -/
inductive StepOk (s : Mach) (k : Int) : Mach × DidS × Int → Prop where
  | bad (e : Int) (h : e = 180 ∨ e = 181 ∨ e = 182) : StepOk s k (s, did0, e)
  | idle (h : 0 ≤ k ∧ k < s.cores.length) : StepOk s k (s, did0, 0)
  | does (q : Nat) (hq : k = q) (d : DidS) (s2 : Mach) (h : Does s q d s2) : StepOk s k (s2, d, 0)
theorem run_does {o : Obj} {s : Mach} (g : Good o s) (ok : ObjOk o) (k : Int) : StepOk s k (runS o s k) := by
  rw [runS]
  by_cases h1 : out s k
  · rw [if_pos h1]; exact .bad _ (.inl rfl)
  rw [if_neg h1]
  by_cases h2 : (s.core k.toNat).halted = true
  · rw [if_pos h2]; exact .idle (by unfold out at h1; omega)
  rw [if_neg h2]
  by_cases h3 : stallsF o s k.toNat (instrAt o s k.toNat) = true
  · rw [if_pos h3]; exact .bad _ (.inr (.inl rfl))
  rw [if_neg h3]
  have hk : k = (k.toNat : Int) := by unfold out at h1; omega
  have := does_act g ok (q := k.toNat) (by unfold out at h1; omega) (by simpa using h3)
  rw [← hk] at this
  exact .does k.toNat hk _ _ this
theorem drain_does {o : Obj} {s : Mach} (g : Good o s) (k : Int) : StepOk s k (drainS o s k) := by
  rw [drainS]
  by_cases h1 : out s k
  · rw [if_pos h1]; exact .bad _ (.inl rfl)
  rw [if_neg h1]
  have hk : k = (k.toNat : Int) := by unfold out at h1; omega
  have hq : k.toNat < s.cores.length := by unfold out at h1; omega
  have ha := g.addr _ hq
  cases hb : (s.core k.toNat).buf with
  | nil => exact .idle (by unfold out at h1; omega)
  | cons x t =>
    refine .does k.toNat hk _ _ ⟨hq, hk, by simp, fun j hj => by rw [core_set2 hq, if_neg hj], by rw [core_set2 hq, if_pos rfl, hb]; simp, fun _ => by rw [hb]; rfl, by simp, fun _ => ha x (by rw [hb]; simp), by simp, by simp, by simp, by simp [Mach.setCore]⟩
theorem step_does {o : Obj} {s : Mach} (g : Good o s) (ok : ObjOk o) (kind k : Int) : StepOk s k (stepS o s kind k) := by
  rw [stepS]
  split
  · exact run_does g ok k
  · split
    · exact drain_does g k
    · exact .bad _ (.inr (.inr rfl))
theorem does_len {o : Obj} {s : Mach} (g : Good o s) (ok : ObjOk o) (kind k : Int) : (stepS o s kind k).1.cores.length = s.cores.length := (g.step ok kind k).n.trans g.n.symm
end Go.Proofs.Ytliabecchkolgaa
