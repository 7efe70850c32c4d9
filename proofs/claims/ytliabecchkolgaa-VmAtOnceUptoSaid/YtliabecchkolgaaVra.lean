/- One round with the store drained right behind it. -/
import Derived.Test.YtliabecchkolgaaVq
namespace Go.Proofs.Ytliabecchkolgaa
open Go Go.Abs Go.Proofs
set_option linter.unusedSimpArgs false
set_option linter.unusedVariables false
def Empty (s : Mach) : Prop := ∀ q, q < s.cores.length → (s.core q).buf = []
structure Round (o : Obj) (s : Mach) (q : Nat) (d : DidS) (e : Int) (s2 : Mach) : Prop where
  e : e = 0
  own : d.own = false
  load : d.kind = 2 → 0 ≤ d.addr ∧ d.addr < s.mem.length ∧ d.word = s.mem.getD d.addr.toNat 0
  store : d.kind = 3 → 0 ≤ d.addr ∧ d.addr < s.mem.length
  swap : d.kind = 4 → 0 ≤ d.addr ∧ d.addr < s.mem.length ∧ d.word = s.mem.getD d.addr.toNat 0
  empty : Empty s2
  kd : d.kind = 0 ∨ d.kind = 1 ∨ d.kind = 2 ∨ d.kind = 3 ∨ d.kind = 4 ∨ d.kind = 5 ∨ d.kind = 6 ∨ d.kind = 7
  mem : s2.mem = if d.kind = 3 then s.mem.set d.addr.toNat d.word else if d.kind = 4 then s.mem.set d.addr.toNat d.put else s.mem
theorem empty_init (o : Obj) : Empty (initM o) := by
  intro q hq
  simp only [initM, List.length_replicate] at hq
  simp [initM, List.getD, hq, core0]
theorem stalls_empty {o : Obj} {s : Mach} (ok : ObjOk o) {q : Nat} (h : (s.core q).buf = []) (i : Instr) : stallsF o s q i = false := by
  have := ok.buffer
  simp only [stallsF, h, List.length_nil]
  split
  · simp; omega
  · split <;> simp
theorem drain_empty {o : Obj} {s : Mach} {q : Nat} (hq : q < s.cores.length) (h : (s.core q).buf = []) : drainS o s q = (s, did0, 0) := by
  have : ¬ out s q := by unfold out; omega
  rw [drainS, if_neg this, Int.toNat_natCast, h]
theorem empty_set {s : Mach} (h : Empty s) {q : Nat} (hq : q < s.cores.length) {c : CoreS} (hc : c.buf = []) (mem : List Int) (pr : List PrintS) : Empty { s.setCore q c with mem := mem, prints := pr } := by
  intro j hj
  have e : ({ s.setCore q c with mem := mem, prints := pr } : Mach).core j = if j = q then c else s.core j := core_set hq c j
  rw [e]
  split
  · exact hc
  · exact h j (by simpa [Mach.setCore] using hj)
theorem round_in {o : Obj} {s : Mach} (g : Good o s) (ok : ObjOk o) (he : Empty s) {q : Nat} (hq : q < s.cores.length) : Round o s q (runS o s q).2.1 (runS o s q).2.2 (drainS o (runS o s q).1 q).1 := by
  have ho : ¬ out s q := by unfold out; omega
  have hb := he q hq
  have hqo : q < o.cores.length := by rw [← g.n]; exact hq
  have iok : ActOk (instrAt o s q) (o.core q).code.length o.mem.length := instrOk_act (ok.ok q hqo (s.core q).pc.toNat (by have := g.pc q hq; omega))
  rw [runS, if_neg ho, Int.toNat_natCast]
  by_cases hh : (s.core q).halted = true
  · rw [if_pos hh, drain_empty hq hb]
    exact ⟨rfl, rfl, by simp [did0], by simp [did0], by simp [did0], he, by simp [did0], by simp [did0]⟩
  rw [if_neg hh, if_neg (by rw [stalls_empty ok hb]; simp)]
  have hc := inc_core hq
  have hm : (s.inc q).mem = s.mem := rfl
  have hk := kinds iok.kind
  have hmm : ∀ c : CoreS, (s.setCore q c).mem = s.mem := fun _ => rfl
  have hbuf : ∀ (c : CoreS) (mem : List Int) (pr : List PrintS), c.buf = [] → drainS o { s.setCore q c with mem := mem, prints := pr } q = ({ s.setCore q c with mem := mem, prints := pr }, did0, 0) := by
    intro c mem pr hcb
    refine drain_empty (by simpa [Mach.setCore] using hq) ?_
    have e : ({ s.setCore q c with mem := mem, prints := pr } : Mach).core q = if q = q then c else s.core q := core_set hq c q
    rw [e, if_pos rfl]; exact hcb
  have hbuf0 : ∀ (c : CoreS), c.buf = [] → drainS o (s.setCore q c) q = (s.setCore q c, did0, 0) := fun c h => hbuf c s.mem s.prints h
  have hes : ∀ (c : CoreS), c.buf = [] → Empty (s.setCore q c) := fun c h => empty_set he hq h s.mem s.prints
  generalize instrAt o s q = i at *
  have hadr := iok.addr
  rw [← g.mem] at hadr
  by_cases k1 : i.kind = 1
  · simp only [act, if_pos k1, doSet, inc_set, hc]
    rw [hbuf0 _ (by simpa [CoreS.put] using hb)]
    exact ⟨rfl, rfl, by simp, by simp, by simp, hes _ (by simpa [CoreS.put] using hb), by simp [did0], by simp [Mach.setCore]⟩
  by_cases k2 : i.kind = 2
  · simp only [act, if_neg k1, if_pos k2, doOp, inc_set, hc]
    rw [hbuf0 _ (by simpa [CoreS.put] using hb)]
    exact ⟨rfl, rfl, by simp, by simp, by simp, hes _ (by simpa [CoreS.put] using hb), by simp [did0], by simp [Mach.setCore]⟩
  by_cases k3 : i.kind = 3
  · simp only [act, if_neg k1, if_neg k2, if_pos k3, doLoad, inc_set, hc, hb, seenF, hm]
    rw [hbuf0 _ (by simpa [CoreS.put] using hb)]
    exact ⟨rfl, rfl, fun _ => ⟨(hadr (by omega)).1, (hadr (by omega)).2, rfl⟩, by simp, by simp, hes _ (by simpa [CoreS.put] using hb), by simp [did0], by simp [Mach.setCore]⟩
  by_cases k4 : i.kind = 4
  · simp only [act, if_neg k1, if_neg k2, if_neg k3, if_pos k4, doStore, inc_set, hc, hb, List.nil_append]
    have hd : ∀ (c : CoreS) (x : StoreS), c.buf = [x] → (drainS o (s.setCore q c) q).1 = { s.setCore q { c with buf := [] } with mem := s.mem.set x.addr.toNat x.word } := by
      intro c x hcx
      have hq2 : q < (s.setCore q c).cores.length := by simpa [Mach.setCore] using hq
      have h1 : ¬ out (s.setCore q c) q := by unfold out; omega
      have h2 : (s.setCore q c).core q = c := by rw [core_set hq, if_pos rfl]
      rw [drainS, if_neg h1, Int.toNat_natCast, h2, hcx]
      simp [Mach.setCore]
    rw [hd _ _ rfl]
    exact ⟨rfl, rfl, by simp, fun _ => hadr (by omega), by simp, empty_set he hq rfl _ _, by simp [did0], by simp⟩
  by_cases k5 : i.kind = 5
  · simp only [act, if_neg k1, if_neg k2, if_neg k3, if_neg k4, if_pos k5, doSwap, inc_set, hc, hm]
    rw [hbuf _ _ _ (by simpa [CoreS.put] using hb)]
    exact ⟨rfl, rfl, by simp, by simp, fun _ => ⟨(hadr (by omega)).1, (hadr (by omega)).2, rfl⟩, empty_set he hq (by simpa [CoreS.put] using hb) _ _, by simp [did0], by simp [CoreS.put]⟩
  by_cases k6 : i.kind = 6
  · simp only [act, if_neg k1, if_neg k2, if_neg k3, if_neg k4, if_neg k5, if_pos k6, doFence, inc_set, hc]
    rw [hbuf0 _ (by simpa using hb)]
    exact ⟨rfl, rfl, by simp, by simp, by simp, hes _ hb, by simp [did0], by simp [Mach.setCore]⟩
  by_cases k7 : i.kind = 7
  · simp only [act, if_neg k1, if_neg k2, if_neg k3, if_neg k4, if_neg k5, if_neg k6, if_pos k7, doPrint, inc_set, hc, hmm]
    rw [hbuf _ s.mem _ (by simpa using hb)]
    exact ⟨rfl, rfl, by simp, by simp, by simp, empty_set he hq (by simpa using hb) _ _, by simp [did0], by simp [Mach.inc, Mach.setCore]⟩
  by_cases k8 : i.kind = 8
  · simp only [act, if_neg k1, if_neg k2, if_neg k3, if_neg k4, if_neg k5, if_neg k6, if_neg k7, if_pos k8, doJump, inc_set, hc]
    rw [hbuf0 _ (by simpa using hb)]
    exact ⟨rfl, rfl, by simp, by simp, by simp, hes _ hb, by simp [did0], by simp [Mach.setCore]⟩
  by_cases k9 : i.kind = 9
  · simp only [act, if_neg k1, if_neg k2, if_neg k3, if_neg k4, if_neg k5, if_neg k6, if_neg k7, if_neg k8, if_pos k9, doZero, inc_set, hc]
    rw [hbuf0 _ (by split <;> exact hb)]
    exact ⟨rfl, rfl, by simp, by simp, by simp, hes _ (by split <;> exact hb), by simp [did0], by simp [Mach.setCore]⟩
  simp only [act, if_neg k1, if_neg k2, if_neg k3, if_neg k4, if_neg k5, if_neg k6, if_neg k7, if_neg k8, if_neg k9, doHalt, inc_set, hc]
  rw [hbuf0 _ (by simpa using hb)]
  exact ⟨rfl, rfl, by simp, by simp, by simp, hes _ hb, by simp [did0], by simp [Mach.setCore]⟩
end Go.Proofs.Ytliabecchkolgaa
