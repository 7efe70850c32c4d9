/- A core's run. -/
import Derived.Test.YtliabecchkolgaaVi
namespace Go.Proofs.Ytliabecchkolgaa
open Go Go.Abs Go.Proofs
set_option linter.unusedSimpArgs false
set_option linter.unusedVariables false
theorem MAt.keepIds {o : Obj} {s : Mach} {L : Lay} {H H' : Hp} {nx nx' : Nat} (h : MAt o s L H nx) (hf : ∀ b, b ∈ L.ids → getH H' b = getH H b) (hn : nx ≤ nx') : MAt o s L H' nx' := by
  obtain ⟨d1, h1⟩ := h.m
  obtain ⟨d2, h2⟩ := h.c
  obtain ⟨d3, h3⟩ := h.mem
  obtain ⟨d4, h4⟩ := h.pr
  refine ⟨⟨d1, (hf _ (by simp [Lay.ids])).trans h1⟩, ⟨d2, (hf _ (by simp [Lay.ids])).trans h2⟩, ⟨d3, (hf _ (by simp [Lay.ids])).trans h3⟩, ⟨d4, (hf _ (by simp [Lay.ids])).trans h4⟩, ?_, h.lens, fun b hb => Nat.lt_of_lt_of_le (h.lt b hb) hn, h.nodup⟩
  intro i hi
  obtain ⟨d5, h5⟩ := h.bufs i hi
  exact ⟨d5, (hf _ (by simp only [Lay.ids, List.mem_cons]; exact .inr (.inr (.inr (.inr (Lay.mem_buf (by rw [h.lens]; exact hi))))))).trans h5⟩
theorem MAt.keep {o : Obj} {s : Mach} {L : Lay} {H H' : Hp} {nx nx' : Nat} (h : MAt o s L H nx) (hf : ∀ b, b < nx → getH H' b = getH H b) (hn : nx ≤ nx') : MAt o s L H' nx' := h.keepIds (fun b hb => hf b (h.lt b hb)) hn
structure ObjOk (o : Obj) : Prop where
  buffer : 1 ≤ o.buffer ∧ o.buffer ≤ 16
  cores : o.cores.length ≤ 8
  mem : o.mem.length ≤ 4096
  code : ∀ q, q < o.cores.length → 1 ≤ (o.core q).code.length ∧ (o.core q).code.length ≤ 16384
  last : ∀ q, q < o.cores.length → lastOk (o.core q) = true
  ok : ∀ q, q < o.cores.length → ∀ k, k < (o.core q).code.length → instrOk ((o.core q).code.getD k default) (o.core q).code.length o.mem.length = true
structure Good (o : Obj) (s : Mach) : Prop where
  n : s.cores.length = o.cores.length
  mem : s.mem.length = o.mem.length
  pc : ∀ q, q < s.cores.length → 0 ≤ (s.core q).pc ∧ (s.core q).pc < (o.core q).code.length
  buf : ∀ q, q < s.cores.length → ((s.core q).buf.length : Int) ≤ o.buffer
  addr : ∀ q, q < s.cores.length → ∀ x ∈ (s.core q).buf, 0 ≤ x.addr ∧ x.addr < s.mem.length
def did0 : DidS := ⟨0, 0, 0, 0, 0, 0, false⟩
def Mach.inc (s : Mach) (q : Nat) : Mach := s.setCore q { s.core q with pc := (s.core q).pc + 1 }
def runS (o : Obj) (s : Mach) (k : Int) : Mach × DidS × Int :=
  if out s k then (s, did0, 180) else if (s.core k.toNat).halted = true then (s, did0, 0) else if stallsF o s k.toNat (instrAt o s k.toNat) = true then (s, did0, 181) else
    let r := act (s.inc k.toNat) k.toNat (instrAt o s k.toNat) { did0 with core := k, pc := (s.core k.toNat).pc }
    (r.1, r.2, 0)
def Stepped (o : Obj) (L : Lay) (H : Hp) (nx : Nat) (x : Mach × DidS × Int) : AV → Hp → Nat → Prop := fun r H' n =>
  r = .tup [x.2.1.av, i64 x.2.2] ∧ nx ≤ n ∧ (∃ L', MAt o x.1 L' H' n ∧ Moves L L' nx) ∧ ∀ b, b < nx → b ∉ L.ids → getH H' b = getH H b
theorem Stepped.same {o : Obj} {s : Mach} {L : Lay} {H H' : Hp} {nx n : Nat} (h : MAt o s L H nx) {d : DidS} {e : Int} (hn : nx ≤ n) (hf : ∀ b, b < nx → getH H' b = getH H b) : Stepped o L H nx (s, d, e) (.tup [d.av, i64 e]) H' n :=
  ⟨rfl, hn, ⟨L, h.keep hf hn, Moves.refl _ _⟩, fun b hb _ => hf b hb⟩
theorem lay_same {L : Lay} {q : Nat} (h : q < L.bufs.length) : ({ L with bufs := L.bufs.set q (L.bufs.getD q 0) } : Lay) = L := by
  have e : L.bufs.getD q 0 = L.bufs[q] := by simp [List.getD, h]
  rw [e, List.set_getElem_self]
theorem inc_core {s : Mach} {q : Nat} (hq : q < s.cores.length) : (s.inc q).core q = { s.core q with pc := (s.core q).pc + 1 } := by
  simp [Mach.inc, Mach.core, Mach.setCore, List.getD, hq]
theorem act_inc {o : Obj} {s : Mach} {L : Lay} {H Hc : Hp} {nx nc : Nat} (h : MAt o s L H nx) {q : Nat} (hq : q < s.cores.length) (hn : nx ≤ nc)
    (h1 : ∃ d es, getH Hc L.m = some (.row 103 8 d es) ∧ es = [machAv o s L])
    (h2 : ∃ d es, getH Hc L.c = some (.row 98 19 d es) ∧ es = (rows s L).set q (CoreS.av { s.core q with pc := (s.core q).pc + 1 } (L.bufs.getD q 0)))
    (h6 : ∀ b, b < nx → b ≠ L.c → b ∈ L.ids → getH Hc b = getH H b)
    {d : Nat} {did : DidS} (hd : DidAt L Hc nc d did) (i : Instr) {code : Int} (ok : ActOk i code s.mem.length)
    (hbl : (s.core q).buf.length < 1000) (hpl : (s.prints.length + 1) * 16 ≤ 140737488355328) :
    CallN Try.prog (actFn i.kind) [turnAv s L q d i] Hc nc (Turned o L Hc nc d (act (s.inc q) q i did).1 (act (s.inc q) q i did).2) := by
  obtain ⟨e3, h3⟩ := h.mem
  obtain ⟨e4, h4⟩ := h.pr
  obtain ⟨e5, h5⟩ := h.bufs q hq
  obtain ⟨a1, a2, a3, a4, a5, a6, a7, a8, a9, a10⟩ := h.apart hq
  obtain ⟨l1, l2, l3, l4, l5⟩ := h.lts hq
  have hqb : q < L.bufs.length := by rw [h.lens]; exact hq
  have hbm : ∀ j, j < s.cores.length → L.bufs.getD j 0 ∈ L.ids := by
    intro j hj
    simp only [Lay.ids, List.mem_cons]
    exact .inr (.inr (.inr (.inr (Lay.mem_buf (by rw [h.lens]; exact hj)))))
  obtain ⟨hM, _⟩ := h.next hq { s.core q with pc := (s.core q).pc + 1 } (L.bufs.getD q 0) s.mem s.prints hn (.inl rfl) h1 h2
    ⟨e3, _, (h6 _ l3 (Ne.symm a4) (by simp [Lay.ids])).trans h3, rfl⟩ ⟨e4, _, (h6 _ l4 (Ne.symm a5) (by simp [Lay.ids])).trans h4, rfl⟩ ⟨e5, _, (h6 _ l5 (Ne.symm a8) (hbm q hq)).trans h5, rfl⟩
    (fun j hj _ hl _ hc _ _ _ => h6 _ hl hc (hbm j hj))
  rw [lay_same hqb] at hM
  have hc := inc_core hq
  have hlen : (s.inc q).cores.length = s.cores.length := by simp [Mach.inc, Mach.setCore]
  have hA := act_call (s := s.inc q) (H := Hc) hM (q := q) (by rw [hlen]; exact hq) hd i (code := code) ok (by rw [hc]; exact hbl) hpl
  have ht : turnAv (s.inc q) L q d i = turnAv s L q d i := by simp only [turnAv, hlen]
  rw [ht] at hA
  exact hA
theorem run_out {o : Obj} {s : Mach} {L : Lay} {H : Hp} {nx : Nat} (h : MAt o s L H nx) (k : Int) (hk : out s k) : CallN Try.prog 14 [.pt L.m 1 0 0, i64 k] H nx (Stepped o L H nx (runS o s k)) := by
  refine Go.fn Try.func14 nm14 low14 res14 nt14 rfl ?_
  have he : hasE s k = 180 := by rw [hasE, if_pos hk]
  rw [runS, if_pos hk]
  repeat' (first
    | ((with_reducible refine Go.red ?_); conv => whnf)
    | (with_reducible refine Go.and ?_ ?_)
    | (with_reducible exact True.intro)
    | (with_reducible refine Go.far ?_)
    | ((with_reducible refine Apt.mk ?_); (try dsimp only); omega)
    | ((with_reducible refine Ask.mk ?_); first | exact aAsk | exact aAsk2)
    | ((with_reducible refine Go.ari64 ?_ ?_ ?_); (· exact aBnd); (· exact aBnd))
    | ((with_reducible refine Go.ariu8 ?_ ?_ ?_); (· exact aBnd); (· exact aBnd))
    | (with_reducible refine Go.ari0 ?_)
    | (apply Go.elem; (· exact aElem))
    | (apply Go.row; (· exact aRow))
    | (apply Go.gives; (· exact aGives))
    | (apply Go.gives; (· exact aRes))
    | (with_reducible refine Go.unroll ?_)
    | ((refine Go.lookW (he ▸ has_call (h.keep aKeep aNx) k) ?_ ?_); (· exact True.intro))
    | ((refine Go.lookJ (fun _ => he ▸ has_call (h.keep aKeep aNx) k) ?_ ?_); (· exact True.intro))
    | (refine Go.gt rfl ?_)
    | (refine Go.gf rfl ?_)
    | (with_reducible refine Go.join ?_)
    | (refine Go.lt' rfl ?_)
    | (refine Go.lf' rfl ?_)
    | ((with_reducible refine Go.bool ?_ ?_) <;> intro hc <;> (try simp only [List.length_map, ne_eq, hcs] at hc) <;> try (exfalso; omega))
    | ((with_reducible refine Res.eq ?_ ?_); (· exact aFit)))
  · exact ⟨Stepped.same h aNx aKeep⟩
set_option maxRecDepth 20000 in
theorem run_in {o : Obj} {s : Mach} {L : Lay} {H : Hp} {nx : Nat} (h : MAt o s L H nx) (g : Good o s) (ok : ObjOk o) (hpl : (s.prints.length + 1) * 16 ≤ 140737488355328) {q : Nat} (hq : q < s.cores.length) : CallN Try.prog 14 [.pt L.m 1 0 0, i64 q] H nx (Stepped o L H nx (runS o s q)) := by
  refine Go.fn Try.func14 nm14 low14 res14 nt14 rfl ?_
  have hk : ¬ out s q := by unfold out; omega
  have he : hasE s q = 0 := by rw [hasE, if_neg hk]
  rw [runS, if_neg hk, Int.toNat_natCast]
  have iok : ActOk (instrAt o s q) (o.core q).code.length o.mem.length := instrOk_act (ok.ok q (by rw [← g.n]; exact hq) (s.core q).pc.toNat (by have := g.pc q hq; omega))
  repeat' (first
    | ((with_reducible refine Go.red ?_); conv => whnf)
    | (with_reducible refine Go.and ?_ ?_)
    | (with_reducible exact True.intro)
    | (with_reducible refine Go.far ?_)
    | ((with_reducible refine Apt.mk ?_); (try dsimp only); omega)
    | ((with_reducible refine Ask.mk ?_); first | exact aAsk | exact aAsk2)
    | ((with_reducible refine Go.ari64 ?_ ?_ ?_); (· exact aBnd); (· exact aBnd))
    | ((with_reducible refine Go.ariu8 ?_ ?_ ?_); (· exact aBnd); (· exact aBnd))
    | (with_reducible refine Go.ari0 ?_)
    | (apply Go.elem; (· exact aElem))
    | (apply Go.row; (· exact aRow))
    | (apply Go.gives; (· exact aGives))
    | (apply Go.gives; (· exact aRes))
    | (with_reducible refine Go.unroll ?_)
    | ((refine Go.lookW (he ▸ has_call (h.keep aKeep aNx) q) ?_ ?_); (· exact True.intro))
    | ((refine Go.lookJ (fun _ => he ▸ has_call (h.keep aKeep aNx) q) ?_ ?_); (· exact True.intro))
    | (refine Go.gt rfl ?_)
    | (refine Go.gf rfl ?_)
    | (with_reducible refine Go.join ?_)
    | (refine Go.lt' rfl ?_)
    | (refine Go.lf' rfl ?_)
    | ((with_reducible refine Go.bool ?_ ?_) <;> intro hc <;> (try simp only [List.length_map, ne_eq, hcs] at hc) <;> try (exfalso; omega))
    | ((with_reducible refine Res.eq ?_ ?_); (· exact aFit)))
  refine Go.callN (next_call (h.keep aKeep aNx) hq g.n (g.pc q hq) _) ?_
  rintro _ H1 n1 ⟨rfl, hn1, hfr1⟩
  have hlt := h.lts hq
  obtain ⟨f4, e4⟩ : ∃ df, getH H1 nx = some (didRow did0 df) := ⟨_, (hfr1 _ aNx).trans aRow⟩
  obtain ⟨f7, e7⟩ : ∃ df, getH H1 (nx + 1 + 1 + 1 + 1 + 1 + 1 + 1 + 1 + 1) = some (didRow { did0 with core := q } df) := ⟨_, (hfr1 _ aNx).trans aRow⟩
  have hfr : ∀ b, b < nx → getH H1 b = getH H b := fun b hb => (hfr1 b aNx).trans (by repeat (first | exact rfl | (refine Eq.trans (getH_skipEq (by omega)) ?_)))
  have hn2 : nx + 10 ≤ n1 := by omega
  have h1 : MAt o s L H1 n1 := h.keep hfr (by omega)
  rw [didRow] at e4 e7
  clear hfr1 hn1
  obtain ⟨dm, rm⟩ := h1.m
  obtain ⟨dc, rc⟩ := h1.c
  have hel := rows_len h1
  have hei := rows_at h1 hq
  obtain ⟨l1, l2, l3, l4, l5⟩ := hlt
  have hp1 : 0 ≤ (s.cores.getD q default).pc ∧ (s.cores.getD q default).pc < 16384 := by
    have p1 : 0 ≤ (s.cores.getD q default).pc ∧ (s.cores.getD q default).pc < (o.core q).code.length := g.pc q hq
    have p2 := ok.code q (by rw [← g.n]; exact hq)
    omega
  obtain ⟨a1, a2, a3, a4, a5, a6, a7, a8, a9, a10⟩ := h1.apart hq
  repeat' (first
    | ((with_reducible refine Go.red ?_); conv => whnf)
    | (with_reducible refine Go.and ?_ ?_)
    | (with_reducible exact True.intro)
    | (with_reducible refine Go.far ?_)
    | ((with_reducible refine Apt.mk ?_); (try dsimp only); omega)
    | ((with_reducible refine Ask.mk ?_); first | exact aAsk | exact aAsk2)
    | ((with_reducible refine Go.ari64 ?_ ?_ ?_); (· exact aBnd); (· exact aBnd))
    | ((with_reducible refine Go.ariu8 ?_ ?_ ?_); (· exact aBnd); (· exact aBnd))
    | (with_reducible refine Go.ari0 ?_)
    | (apply Go.elem; (· (first | exact hei _ | exact aElem)))
    | (apply Go.row; (· exact aRow))
    | (apply Go.gives; (· exact aGives))
    | (apply Go.gives; (· exact aRes))
    | (with_reducible refine Go.unroll ?_)
    | ((refine Go.lookW (stalls_call (h1.keep aKeep aNx) hq _ (instrAt o s q)) ?_ ?_); (· exact True.intro))
    | ((refine Go.lookJ (fun _ => stalls_call (h1.keep aKeep aNx) hq _ (instrAt o s q)) ?_ ?_); (· exact True.intro))
    | ((with_reducible refine Go.callW (does_pure _ iok.kind) ?_ ?_); (· exact aFit))
    | ((with_reducible refine Go.callJ (fun _ => does_pure _ iok.kind) ?_ ?_); (· exact aFit))
    | ((with_reducible refine Go.callE (does_pure _ iok.kind) ?_ ?_); (· exact aFit))
    | ((with_reducible refine Go.callF (fun _ => does_pure _ iok.kind) ?_ ?_); (· exact aFit))
    | (refine Go.gt rfl ?_)
    | (refine Go.gf rfl ?_)
    | (with_reducible refine Go.join ?_)
    | (refine Go.lt' rfl ?_)
    | (refine Go.lf' rfl ?_)
    | ((with_reducible refine Go.bool ?_ ?_) <;> intro hc <;> (try simp only [List.length_map, ne_eq, hcs] at hc) <;> try (exfalso; omega))
    | ((with_reducible refine Res.eq ?_ ?_); (· exact aFit)))
  · rw [if_pos (by assumption)]
    exact ⟨Stepped.same h aNx (by intro _b _hb; repeat (first | exact hfr _ _hb | exact rfl | (refine Eq.trans (getH_skipEq (by first | omega | (simp only [List.length_cons, List.length_nil]; omega))) ?_)))⟩
  · rw [if_neg (fun hx => Bool.noConfusion (hx.symm.trans (show (s.core q).halted = false by assumption))), if_pos (by assumption)]
    exact ⟨Stepped.same h aNx (by intro _b _hb; repeat (first | exact hfr _ _hb | exact rfl | (refine Eq.trans (getH_skipEq (by first | omega | (simp only [List.length_cons, List.length_nil]; omega))) ?_)))⟩
  have hdo : (nx + 1 + 1 + 1 + 1 + 1 + 1 + 1 + 1 + 1) ∉ L.ids := fun hm => by have := h.lt _ hm; omega
  have hbl : (s.core q).buf.length < 1000 := by have := g.buf q hq; have := ok.buffer; omega
  refine Go.callN (act_inc (did := { did0 with core := q, pc := (s.core q).pc }) h1 hq aNx ⟨_, _, aRow, rfl⟩ ⟨_, _, aRow, rfl⟩ (by intro b hb hbc hbi; have := h.lt b hbi; repeat (first | exact rfl | (refine Eq.trans (getH_skipEq (by omega)) ?_))) ⟨aNx, hdo, ⟨_, aRow⟩⟩ (instrAt o s q) (by rw [g.mem]; exact iok) hbl hpl) ?_
  rintro _ H2 n2 ⟨hn3, ⟨L', hM, hmv⟩, ⟨fd, hdr⟩, hfr2⟩
  have hnx : nx ∉ L.ids := fun hm => by have := h.lt _ hm; omega
  have hn4 : nx + 11 ≤ n2 := Nat.le_trans aNx hn3
  have e4b : getH H2 nx = some (.row 33 7 f4 [did0.av]) := (hfr2 nx aNx hnx (by omega)).trans aRow
  have hfr3 : ∀ b, b < nx → b ∉ L.ids → getH H2 b = getH H b := fun b hb hbo => by
    obtain ⟨o1, o2, o3, o4, o5⟩ := Lay.out hbo (q := q) (by rw [h.lens]; exact hq)
    exact (hfr2 b aNx hbo (by omega)).trans (by repeat (first | exact hfr b hb | (refine Eq.trans (getH_skipEq (by omega)) ?_)))
  have hmv2 : ∀ b, b ∈ L'.ids → b ∈ L.ids ∨ nx + 1 ≤ b := fun b hb => (hmv.ids b hb).imp id (fun hh => Nat.le_trans aNx hh)
  have hmm := hmv.m
  rw [didRow] at hdr
  clear hfr2 hmv hn3
  repeat' (first
    | ((with_reducible refine Go.red ?_); conv => whnf)
    | (with_reducible refine Go.and ?_ ?_)
    | (with_reducible exact True.intro)
    | (with_reducible refine Go.far ?_)
    | ((with_reducible refine Apt.mk ?_); (try dsimp only); omega)
    | ((with_reducible refine Ask.mk ?_); first | exact aAsk | exact aAsk2)
    | ((with_reducible refine Go.ari64 ?_ ?_ ?_); (· exact aBnd); (· exact aBnd))
    | ((with_reducible refine Go.ariu8 ?_ ?_ ?_); (· exact aBnd); (· exact aBnd))
    | (with_reducible refine Go.ari0 ?_)
    | (apply Go.elem; (· exact aElem))
    | (apply Go.row; (· exact aRow))
    | (apply Go.gives; (· exact aGives))
    | (apply Go.gives; (· exact aRes))
    | (with_reducible refine Go.unroll ?_)
    | (refine Go.gt rfl ?_)
    | (refine Go.gf rfl ?_)
    | (with_reducible refine Go.join ?_)
    | (refine Go.lt' rfl ?_)
    | (refine Go.lf' rfl ?_)
    | ((with_reducible refine Go.bool ?_ ?_) <;> intro hc <;> (try simp only [List.length_map, ne_eq, hcs] at hc) <;> try (exfalso; omega))
    | ((with_reducible refine Res.eq ?_ ?_); (· exact aFit)))
  rw [if_neg (fun hx => Bool.noConfusion (hx.symm.trans (show (s.core q).halted = false by assumption))), if_neg (fun hx => Bool.noConfusion (hx.symm.trans (show stallsF o s q (instrAt o s q) = false by assumption)))]
  refine ⟨⟨rfl, aNx, ⟨L', hM.keepIds (fun b hb => ?_) aNx, ⟨hmm, fun b hb => (hmv2 b hb).imp id (fun hh => by omega)⟩⟩, fun b hb hbo => ?_⟩⟩
  · have hne : b ≠ nx := fun he => (hmv2 b hb).elim (fun hh => hnx (he ▸ hh)) (fun hh => by omega)
    repeat (first | exact rfl | (refine Eq.trans (getH_skipEq (by omega)) ?_))
  · repeat (first | exact hfr3 b hb hbo | (refine Eq.trans (getH_skipEq (by omega)) ?_))
theorem run_call {o : Obj} {s : Mach} {L : Lay} {H : Hp} {nx : Nat} (h : MAt o s L H nx) (g : Good o s) (ok : ObjOk o) (hpl : (s.prints.length + 1) * 16 ≤ 140737488355328) (k : Int) : CallN Try.prog 14 [.pt L.m 1 0 0, i64 k] H nx (Stepped o L H nx (runS o s k)) := by
  by_cases hk : out s k
  · exact run_out h k hk
  · have h2 : k = (k.toNat : Int) := by unfold out at hk; omega
    rw [h2]
    exact run_in h g ok hpl (by unfold out at hk; omega)
end Go.Proofs.Ytliabecchkolgaa
