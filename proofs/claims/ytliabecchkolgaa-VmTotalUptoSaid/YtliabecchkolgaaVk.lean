/- A core's drain. -/
import Derived.Test.YtliabecchkolgaaVi
import Derived.Test.YtliabecchkolgaaAbsX
namespace Go.Proofs.Ytliabecchkolgaa
open Go Go.Abs Go.Proofs
set_option linter.unusedSimpArgs false
set_option linter.unusedVariables false
def drainS (o : Obj) (s : Mach) (k : Int) : Mach × DidS × Int :=
  if out s k then (s, did0, 180) else match (s.core k.toNat).buf with
    | [] => (s, did0, 0)
    | x :: t => ({ s.setCore k.toNat { s.core k.toNat with buf := t } with mem := s.mem.set x.addr.toNat x.word }, ⟨8, k, x.pc, x.addr, x.word, 0, false⟩, 0)
theorem drain_out {o : Obj} {s : Mach} {L : Lay} {H : Hp} {nx : Nat} (h : MAt o s L H nx) (k : Int) (hk : out s k) : CallN Try.prog 16 [.pt L.m 1 0 0, i64 k] H nx (Stepped o L H nx (drainS o s k)) := by
  refine Go.fn Try.func16 nm16 low16 res16 nt16 rfl ?_
  have he : hasE s k = 180 := by rw [hasE, if_pos hk]
  rw [drainS, if_pos hk]
  repeat' (first
    | ((with_reducible refine Go.red ?_); conv => whnf)
    | (with_reducible refine Go.and ?_ ?_)
    | (with_reducible exact True.intro)
    | (with_reducible refine Go.far ?_)
    | ((with_reducible refine Apt.mk ?_); (try dsimp only); omega)
    | ((with_reducible refine Ask.mk ?_); first | exact aAsk | exact aAsk2)
    | ((with_reducible refine Go.ari64 ?_ ?_ ?_); (· exact aBnd); (· exact aBnd))
    | ((with_reducible refine Go.ariu8 ?_ ?_ ?_); (· exact aBnd); (· exact aBnd))
    | (with_reducible refine Go.ari0 ?_)
    | (apply Go.elem; (· exact aElem))
    | (apply Go.row; (· exact aRow))
    | (apply Go.gives; (· exact aGives))
    | (apply Go.gives; (· exact aRes))
    | (with_reducible refine Go.unroll ?_)
    | (with_reducible refine Go.drawn ?_)
    | ((refine Go.lookW (he ▸ has_call (h.keep aKeep aNx) k) ?_ ?_); (· exact True.intro))
    | ((refine Go.lookJ (fun _ => he ▸ has_call (h.keep aKeep aNx) k) ?_ ?_); (· exact True.intro))
    | (refine Go.gt rfl ?_)
    | (refine Go.gf rfl ?_)
    | (with_reducible refine Go.join ?_)
    | (refine Go.lt' rfl ?_)
    | (refine Go.lf' rfl ?_)
    | ((with_reducible refine Go.bool ?_ ?_) <;> intro hc <;> (try simp only [List.length_map, ne_eq, hcs] at hc) <;> try (exfalso; omega))
    | ((with_reducible refine Res.eq ?_ ?_); (· exact aFit)))
  · exact ⟨Stepped.same h aNx aKeep⟩
theorem drain_nil {o : Obj} {s : Mach} {L : Lay} {H : Hp} {nx : Nat} (h : MAt o s L H nx) {q : Nat} (hq : q < s.cores.length) (hbuf : (s.core q).buf = []) : CallN Try.prog 16 [.pt L.m 1 0 0, i64 q] H nx (Stepped o L H nx (drainS o s q)) := by
  refine Go.fn Try.func16 nm16 low16 res16 nt16 rfl ?_
  have hk : ¬ out s q := by unfold out; omega
  have he : hasE s q = 0 := by rw [hasE, if_neg hk]
  rw [drainS, if_neg hk, Int.toNat_natCast, hbuf]
  obtain ⟨dm, rm⟩ := h.m
  obtain ⟨dc, rc⟩ := h.c
  obtain ⟨db, rb⟩ := h.bufs q hq
  have hel := rows_len h
  have hei := rows_at h hq
  have hbuf2 : (s.cores.getD q default).buf = [] := hbuf
  simp only [CoreS.av, hbuf2] at hei rb
  obtain ⟨l1, l2, l3, l4, l5⟩ := h.lts hq
  repeat' (first
    | ((with_reducible refine Go.red ?_); conv => whnf)
    | (with_reducible refine Go.and ?_ ?_)
    | (with_reducible exact True.intro)
    | (with_reducible refine Go.far ?_)
    | ((with_reducible refine Apt.mk ?_); (try dsimp only); omega)
    | ((with_reducible refine Ask.mk ?_); first | exact aAsk | exact aAsk2)
    | ((with_reducible refine Go.ari64 ?_ ?_ ?_); (· exact aBnd); (· exact aBnd))
    | ((with_reducible refine Go.ariu8 ?_ ?_ ?_); (· exact aBnd); (· exact aBnd))
    | (with_reducible refine Go.ari0 ?_)
    | (apply Go.elem; (· (first | exact hei _ | exact aElem)))
    | (apply Go.row; (· exact aRow))
    | (apply Go.gives; (· exact aGives))
    | (apply Go.gives; (· exact aRes))
    | (with_reducible refine Go.unroll ?_)
    | (with_reducible refine Go.drawn ?_)
    | ((refine Go.lookW (he ▸ has_call (h.keep aKeep aNx) q) ?_ ?_); (· exact True.intro))
    | ((refine Go.lookJ (fun _ => he ▸ has_call (h.keep aKeep aNx) q) ?_ ?_); (· exact True.intro))
    | (refine Go.gt rfl ?_)
    | (refine Go.gf rfl ?_)
    | (with_reducible refine Go.join ?_)
    | (refine Go.lt' rfl ?_)
    | (refine Go.lf' rfl ?_)
    | ((with_reducible refine Go.bool ?_ ?_) <;> intro hc <;> (try simp only [List.length_map, ne_eq, hcs] at hc) <;> try (exfalso; omega))
    | ((with_reducible refine Res.eq ?_ ?_); (· exact aFit)))
  exact ⟨Stepped.same h aNx aKeep⟩
theorem drain_in {o : Obj} {s : Mach} {L : Lay} {H : Hp} {nx : Nat} (h : MAt o s L H nx) (g : Good o s) (ok : ObjOk o) {q : Nat} (hq : q < s.cores.length) {x : StoreS} {t : List StoreS} (hbuf : (s.core q).buf = x :: t) : CallN Try.prog 16 [.pt L.m 1 0 0, i64 q] H nx (Stepped o L H nx (drainS o s q)) := by
  refine Go.fn Try.func16 nm16 low16 res16 nt16 rfl ?_
  have hk : ¬ out s q := by unfold out; omega
  have he : hasE s q = 0 := by rw [hasE, if_neg hk]
  rw [drainS, if_neg hk, Int.toNat_natCast, hbuf]
  obtain ⟨dm, rm⟩ := h.m
  obtain ⟨dc, rc⟩ := h.c
  obtain ⟨dmem, rmem⟩ := h.mem
  obtain ⟨dpr, rpr⟩ := h.pr
  obtain ⟨db, rb⟩ := h.bufs q hq
  have hel := rows_len h
  have hei := rows_at h hq
  have hbuf2 : (s.cores.getD q default).buf = x :: t := hbuf
  have hx := g.addr q hq x (by rw [hbuf]; simp)
  have hbl : t.length < 1000 := by
    have h1 := g.buf q hq
    have h2 := ok.buffer
    rw [hbuf, List.length_cons] at h1; omega
  simp only [CoreS.av, hbuf2, List.length_cons, List.map_cons] at hei rb
  obtain ⟨l1, l2, l3, l4, l5⟩ := h.lts hq
  obtain ⟨a1, a2, a3, a4, a5, a6, a7, a8, a9, a10⟩ := h.apart hq
  repeat' (first
    | ((with_reducible refine Go.red ?_); conv => whnf)
    | (with_reducible refine Go.and ?_ ?_)
    | (with_reducible exact True.intro)
    | (with_reducible refine Go.far ?_)
    | ((with_reducible refine Apt.mk ?_); (try dsimp only); omega)
    | ((with_reducible refine Ask.mk ?_); first | exact aAsk | exact aAsk2)
    | ((with_reducible refine Go.ari64 ?_ ?_ ?_); (· exact aBnd); (· exact aBnd))
    | ((with_reducible refine Go.ariu8 ?_ ?_ ?_); (· exact aBnd); (· exact aBnd))
    | (with_reducible refine Go.ari0 ?_)
    | (apply Go.elem; (· (first | exact hei _ | exact aElem)))
    | (apply Go.row; (· exact aRow))
    | (apply Go.gives; (· exact aGives))
    | (apply Go.gives; (· exact aRes))
    | (with_reducible refine Go.unroll ?_)
    | (with_reducible refine Go.drawn ?_)
    | ((refine Go.lookW (he ▸ has_call (h.keep aKeep aNx) q) ?_ ?_); (· exact True.intro))
    | ((refine Go.lookJ (fun _ => he ▸ has_call (h.keep aKeep aNx) q) ?_ ?_); (· exact True.intro))
    | (refine Go.gt rfl ?_)
    | (refine Go.gf rfl ?_)
    | (with_reducible refine Go.join ?_)
    | (refine Go.lt' rfl ?_)
    | (refine Go.lf' rfl ?_)
    | ((with_reducible refine Go.bool ?_ ?_) <;> intro hc <;> (try simp only [List.length_map, ne_eq, hcs] at hc) <;> try (exfalso; omega))
    | ((with_reducible refine Res.eq ?_ ?_); (· exact aFit)))
  have hlen : ((t.length + 1 : Nat) : Int) - 1 = (t.length : Int) := by omega
  have hlen2 : (((t.length + 1 : Nat) : Int) - 1).toNat = t.length := by rw [hlen]; simp
  refine ⟨⟨rfl, aNx, ⟨_, h.next hq { s.core q with buf := t } (nx + 34) (s.mem.set x.addr.toNat x.word) s.prints aNx (.inr ⟨aNx, aNx⟩) ⟨_, _, aRow, (by simp only [List.length_set])⟩ ⟨_, _, aRow, (by rw [hlen2]; rfl)⟩ ⟨_, _, aRow, (by rw [List.map_set])⟩ ⟨_, _, aRow, rfl⟩ ⟨_, _, aRow, ?_⟩ (by intro j hj hne hlt n1 n2 n3 n4 n5; repeat (first | exact rfl | (refine Eq.trans (getH_skipEq (by omega)) ?_)))⟩, (by intro b' hb' hout; obtain ⟨o1, o2, o3, o4, o5⟩ := Lay.out hout (q := q) (by rw [h.lens]; exact hq); repeat (first | exact rfl | (refine Eq.trans (getH_skipEq (by omega)) ?_)))⟩⟩
  rw [hlen2]
  have e1 : t.length + 1 - Int.toNat 1 = t.length := by simp
  have e2 : List.drop (Int.toNat 1) (x.av :: List.map StoreS.av t) = List.map StoreS.av t := rfl
  rw [e1, e2, List.take_of_length_le (by simp)]
  simp
  exact List.take_of_length_le (by simp)
theorem drain_call {o : Obj} {s : Mach} {L : Lay} {H : Hp} {nx : Nat} (h : MAt o s L H nx) (g : Good o s) (ok : ObjOk o) (k : Int) : CallN Try.prog 16 [.pt L.m 1 0 0, i64 k] H nx (Stepped o L H nx (drainS o s k)) := by
  by_cases hk : out s k
  · exact drain_out h k hk
  · have h2 : k = (k.toNat : Int) := by unfold out at hk; omega
    rw [h2]
    have hq : k.toNat < s.cores.length := by unfold out at hk; omega
    cases hb : (s.core k.toNat).buf with
    | nil => exact drain_nil h hq hb
    | cons x t => exact drain_in h g ok hq hb
def stepS (o : Obj) (s : Mach) (kind k : Int) : Mach × DidS × Int := if kind = 1 then runS o s k else if kind = 2 then drainS o s k else (s, did0, 182)
theorem step_run {o : Obj} {s : Mach} {L : Lay} {H : Hp} {nx : Nat} (h : MAt o s L H nx) (g : Good o s) (ok : ObjOk o) (hpl : (s.prints.length + 1) * 16 ≤ 140737488355328) (k : Int) : CallN Try.prog 19 [.pt L.m 1 0 0, .agg [u8 1, i64 k]] H nx (Stepped o L H nx (runS o s k)) := by
  refine Go.fn Try.func19 nm19 low19 res19 nt19 rfl ?_
  repeat' (first
    | ((with_reducible refine Go.red ?_); conv => whnf)
    | (with_reducible refine Go.and ?_ ?_)
    | (with_reducible exact True.intro)
    | (with_reducible refine Go.far ?_)
    | ((with_reducible refine Apt.mk ?_); (try dsimp only); omega)
    | ((with_reducible refine Ask.mk ?_); first | exact aAsk | exact aAsk2)
    | ((with_reducible refine Go.ari64 ?_ ?_ ?_); (· exact aBnd); (· exact aBnd))
    | ((with_reducible refine Go.ariu8 ?_ ?_ ?_); (· exact aBnd); (· exact aBnd))
    | (with_reducible refine Go.ari0 ?_)
    | (apply Go.elem; (· exact aElem))
    | (apply Go.row; (· exact aRow))
    | (apply Go.gives; (· exact aGives))
    | (apply Go.gives; (· exact aRes))
    | (with_reducible refine Go.unroll ?_)
    | (with_reducible refine Go.drawn ?_)
    | (refine Go.gt rfl ?_)
    | (refine Go.gf rfl ?_)
    | (with_reducible refine Go.join ?_)
    | (refine Go.lt' rfl ?_)
    | (refine Go.lf' rfl ?_)
    | ((with_reducible refine Go.bool ?_ ?_) <;> intro hc <;> (try simp only [List.length_map, ne_eq, hcs] at hc) <;> try (exfalso; omega))
    | ((with_reducible refine Res.eq ?_ ?_); (· exact aFit)))
  refine Go.callN (run_call (h.keep aKeep aNx) g ok hpl _) ?_
  rintro _ H2 n2 ⟨rfl, hn3, ⟨L', hM, hmv⟩, hfr2⟩
  have hlt := h.lt
  have hnx : nx + 1 ∉ L.ids := fun hm => by have := h.lt _ hm; omega
  have hn4 : nx + 3 ≤ n2 := Nat.le_trans aNx hn3
  have e4b : getH H2 (nx + 1) = some (.row 33 7 _ [did0.av]) := (hfr2 _ aNx hnx).trans aRow
  have hfr3 : ∀ b, b < nx → b ∉ L.ids → getH H2 b = getH H b := fun b hb hbo => (hfr2 b aNx hbo).trans (by repeat (first | exact rfl | (refine Eq.trans (getH_skipEq (by omega)) ?_)))
  have hmv2 : ∀ b, b ∈ L'.ids → b ∈ L.ids ∨ nx + 2 ≤ b := fun b hb => (hmv.ids b hb).imp id (fun hh => Nat.le_trans aNx hh)
  have hmm := hmv.m
  clear hfr2 hmv hn3
  repeat' (first
    | ((with_reducible refine Go.red ?_); conv => whnf)
    | (with_reducible refine Go.and ?_ ?_)
    | (with_reducible exact True.intro)
    | (with_reducible refine Go.far ?_)
    | ((with_reducible refine Apt.mk ?_); (try dsimp only); omega)
    | ((with_reducible refine Ask.mk ?_); first | exact aAsk | exact aAsk2)
    | ((with_reducible refine Go.ari64 ?_ ?_ ?_); (· exact aBnd); (· exact aBnd))
    | ((with_reducible refine Go.ariu8 ?_ ?_ ?_); (· exact aBnd); (· exact aBnd))
    | (with_reducible refine Go.ari0 ?_)
    | (apply Go.elem; (· exact aElem))
    | (apply Go.row; (· exact aRow))
    | (apply Go.gives; (· exact aGives))
    | (apply Go.gives; (· exact aRes))
    | (with_reducible refine Go.unroll ?_)
    | (with_reducible refine Go.drawn ?_)
    | (refine Go.gt rfl ?_)
    | (refine Go.gf rfl ?_)
    | (with_reducible refine Go.join ?_)
    | (refine Go.lt' rfl ?_)
    | (refine Go.lf' rfl ?_)
    | ((with_reducible refine Go.bool ?_ ?_) <;> intro hc <;> (try simp only [List.length_map, ne_eq, hcs] at hc) <;> try (exfalso; omega))
    | ((with_reducible refine Res.eq ?_ ?_); (· exact aFit)))
  refine ⟨⟨rfl, aNx, ⟨L', hM.keepIds (fun b hb => ?_) aNx, ⟨hmm, fun b hb => (hmv2 b hb).imp id (fun hh => by omega)⟩⟩, fun b hb hbo => ?_⟩⟩
  · have hne : b ≠ nx + 1 := fun he => (hmv2 b hb).elim (fun hh => hnx (he ▸ hh)) (fun hh => by omega)
    repeat (first | exact rfl | (refine Eq.trans (getH_skipEq (by omega)) ?_))
  · repeat (first | exact hfr3 b hb hbo | (refine Eq.trans (getH_skipEq (by omega)) ?_))
theorem step_drain {o : Obj} {s : Mach} {L : Lay} {H : Hp} {nx : Nat} (h : MAt o s L H nx) (g : Good o s) (ok : ObjOk o) (hpl : (s.prints.length + 1) * 16 ≤ 140737488355328) (k : Int) : CallN Try.prog 19 [.pt L.m 1 0 0, .agg [u8 2, i64 k]] H nx (Stepped o L H nx (drainS o s k)) := by
  refine Go.fn Try.func19 nm19 low19 res19 nt19 rfl ?_
  repeat' (first
    | ((with_reducible refine Go.red ?_); conv => whnf)
    | (with_reducible refine Go.and ?_ ?_)
    | (with_reducible exact True.intro)
    | (with_reducible refine Go.far ?_)
    | ((with_reducible refine Apt.mk ?_); (try dsimp only); omega)
    | ((with_reducible refine Ask.mk ?_); first | exact aAsk | exact aAsk2)
    | ((with_reducible refine Go.ari64 ?_ ?_ ?_); (· exact aBnd); (· exact aBnd))
    | ((with_reducible refine Go.ariu8 ?_ ?_ ?_); (· exact aBnd); (· exact aBnd))
    | (with_reducible refine Go.ari0 ?_)
    | (apply Go.elem; (· exact aElem))
    | (apply Go.row; (· exact aRow))
    | (apply Go.gives; (· exact aGives))
    | (apply Go.gives; (· exact aRes))
    | (with_reducible refine Go.unroll ?_)
    | (with_reducible refine Go.drawn ?_)
    | (refine Go.gt rfl ?_)
    | (refine Go.gf rfl ?_)
    | (with_reducible refine Go.join ?_)
    | (refine Go.lt' rfl ?_)
    | (refine Go.lf' rfl ?_)
    | ((with_reducible refine Go.bool ?_ ?_) <;> intro hc <;> (try simp only [List.length_map, ne_eq, hcs] at hc) <;> try (exfalso; omega))
    | ((with_reducible refine Res.eq ?_ ?_); (· exact aFit)))
  refine Go.callN (drain_call (h.keep aKeep aNx) g ok _) ?_
  rintro _ H2 n2 ⟨rfl, hn3, ⟨L', hM, hmv⟩, hfr2⟩
  have hlt := h.lt
  have hnx : nx + 1 ∉ L.ids := fun hm => by have := h.lt _ hm; omega
  have hn4 : nx + 3 ≤ n2 := Nat.le_trans aNx hn3
  have e4b : getH H2 (nx + 1) = some (.row 33 7 _ [did0.av]) := (hfr2 _ aNx hnx).trans aRow
  have hfr3 : ∀ b, b < nx → b ∉ L.ids → getH H2 b = getH H b := fun b hb hbo => (hfr2 b aNx hbo).trans (by repeat (first | exact rfl | (refine Eq.trans (getH_skipEq (by omega)) ?_)))
  have hmv2 : ∀ b, b ∈ L'.ids → b ∈ L.ids ∨ nx + 2 ≤ b := fun b hb => (hmv.ids b hb).imp id (fun hh => Nat.le_trans aNx hh)
  have hmm := hmv.m
  clear hfr2 hmv hn3
  repeat' (first
    | ((with_reducible refine Go.red ?_); conv => whnf)
    | (with_reducible refine Go.and ?_ ?_)
    | (with_reducible exact True.intro)
    | (with_reducible refine Go.far ?_)
    | ((with_reducible refine Apt.mk ?_); (try dsimp only); omega)
    | ((with_reducible refine Ask.mk ?_); first | exact aAsk | exact aAsk2)
    | ((with_reducible refine Go.ari64 ?_ ?_ ?_); (· exact aBnd); (· exact aBnd))
    | ((with_reducible refine Go.ariu8 ?_ ?_ ?_); (· exact aBnd); (· exact aBnd))
    | (with_reducible refine Go.ari0 ?_)
    | (apply Go.elem; (· exact aElem))
    | (apply Go.row; (· exact aRow))
    | (apply Go.gives; (· exact aGives))
    | (apply Go.gives; (· exact aRes))
    | (with_reducible refine Go.unroll ?_)
    | (with_reducible refine Go.drawn ?_)
    | (refine Go.gt rfl ?_)
    | (refine Go.gf rfl ?_)
    | (with_reducible refine Go.join ?_)
    | (refine Go.lt' rfl ?_)
    | (refine Go.lf' rfl ?_)
    | ((with_reducible refine Go.bool ?_ ?_) <;> intro hc <;> (try simp only [List.length_map, ne_eq, hcs] at hc) <;> try (exfalso; omega))
    | ((with_reducible refine Res.eq ?_ ?_); (· exact aFit)))
  refine ⟨⟨rfl, aNx, ⟨L', hM.keepIds (fun b hb => ?_) aNx, ⟨hmm, fun b hb => (hmv2 b hb).imp id (fun hh => by omega)⟩⟩, fun b hb hbo => ?_⟩⟩
  · have hne : b ≠ nx + 1 := fun he => (hmv2 b hb).elim (fun hh => hnx (he ▸ hh)) (fun hh => by omega)
    repeat (first | exact rfl | (refine Eq.trans (getH_skipEq (by omega)) ?_))
  · repeat (first | exact hfr3 b hb hbo | (refine Eq.trans (getH_skipEq (by omega)) ?_))
theorem step_not {o : Obj} {s : Mach} {L : Lay} {H : Hp} {nx : Nat} (h : MAt o s L H nx) (kind k : Int) (h1 : kind ≠ 1) (h2 : kind ≠ 2) : CallN Try.prog 19 [.pt L.m 1 0 0, .agg [u8 kind, i64 k]] H nx (Stepped o L H nx (s, did0, 182)) := by
  refine Go.fn Try.func19 nm19 low19 res19 nt19 rfl ?_
  repeat' (first
    | ((with_reducible refine Go.red ?_); conv => whnf)
    | (with_reducible refine Go.and ?_ ?_)
    | (with_reducible exact True.intro)
    | (with_reducible refine Go.far ?_)
    | ((with_reducible refine Apt.mk ?_); (try dsimp only); omega)
    | ((with_reducible refine Ask.mk ?_); first | exact aAsk | exact aAsk2)
    | ((with_reducible refine Go.ari64 ?_ ?_ ?_); (· exact aBnd); (· exact aBnd))
    | ((with_reducible refine Go.ariu8 ?_ ?_ ?_); (· exact aBnd); (· exact aBnd))
    | (with_reducible refine Go.ari0 ?_)
    | (apply Go.elem; (· exact aElem))
    | (apply Go.row; (· exact aRow))
    | (apply Go.gives; (· exact aGives))
    | (apply Go.gives; (· exact aRes))
    | (with_reducible refine Go.unroll ?_)
    | (with_reducible refine Go.drawn ?_)
    | (refine Go.gt rfl ?_)
    | (refine Go.gf rfl ?_)
    | (with_reducible refine Go.join ?_)
    | (refine Go.lt' rfl ?_)
    | (refine Go.lf' rfl ?_)
    | ((with_reducible refine Go.bool ?_ ?_) <;> intro hc <;> (try simp only [List.length_map, ne_eq, hcs] at hc) <;> try (exfalso; omega))
    | ((with_reducible refine Res.eq ?_ ?_); (· exact aFit)))
  · exact ⟨Stepped.same h aNx aKeep⟩
theorem step_call {o : Obj} {s : Mach} {L : Lay} {H : Hp} {nx : Nat} (h : MAt o s L H nx) (g : Good o s) (ok : ObjOk o) (hpl : (s.prints.length + 1) * 16 ≤ 140737488355328) (kind k : Int) : CallN Try.prog 19 [.pt L.m 1 0 0, .agg [u8 kind, i64 k]] H nx (Stepped o L H nx (stepS o s kind k)) := by
  unfold stepS
  by_cases h1 : kind = 1
  · subst h1; exact step_run h g ok hpl k
  rw [if_neg h1]
  by_cases h2 : kind = 2
  · subst h2; exact step_drain h g ok hpl k
  rw [if_neg h2]
  exact step_not h kind k h1 h2
end Go.Proofs.Ytliabecchkolgaa
/- Lists cloned. -/
namespace Go.Proofs.Ytliabecchkolgaa
open Go Go.Abs Go.Proofs
set_option linter.unusedSimpArgs false
set_option linter.unusedVariables false
def Cloned (H : Hp) (nx : Nat) (e : TypeId) (sz : Nat) (es : List AV) : AV → Hp → Nat → Prop := fun r H' n => ∃ b' d', r = .sl b' es.length ∧ nx ≤ b' ∧ b' < n ∧ nx ≤ n ∧ getH H' b' = some (.row e sz d' es) ∧ ∀ b, b < nx → getH H' b = getH H b
theorem Cloned.of {P : Program} {f : FuncId} {args : List AV} {H : Hp} {nx : Nat} {e : TypeId} {sz : Nat} {es : List AV} (hsz : 0 < sz) (h : CallN P f args H nx (fun r H' n => (r = .sc (.slice none 0 0) ∧ es = [] ∧ nx ≤ n ∧ ∀ b, b < nx → getH H' b = getH H b) ∨ Cloned H nx e sz es r H' n)) : CallN P f args H nx (Cloned H nx e sz es) := by
  refine h.wk ?_
  rintro r H' n (⟨rfl, rfl, h1, h2⟩ | h1)
  · refine ⟨_, _, _, Wk.nil (nx := n) e sz .any hsz, n, .any, rfl, h1, Nat.lt_succ_self _, by omega, getH_here _ _ _, fun b hb => ?_⟩
    rw [getH_skipEq (by omega)]; exact h2 b hb
  · exact ⟨r, H', n, Wk.refl _ _ _, h1⟩
theorem clone_words {H : Hp} {nx b n : Nat} {d : AV} {es : List AV} (hb : getH H b = some (.row 2 1 d es)) (hlt : b < nx) (hsz : es.length * 8 ≤ 140737488355328) (hn : es.length = n) : CallN Try.prog 39 [.sl b n] H nx (Cloned H nx 2 1 es) := by
  subst hn
  refine Cloned.of (by omega) ?_
  refine Go.fn Try.func39 nm39 low39 res39 nt39 rfl ?_
  cases hes : es with
  | nil =>
    rw [hes] at hb hsz
    repeat' (first
        | ((with_reducible refine Go.red ?_); conv => whnf)
        | (with_reducible refine Go.and ?_ ?_)
        | (with_reducible exact True.intro)
        | (with_reducible refine Go.far ?_)
        | ((with_reducible refine Apt.mk ?_); (try dsimp only); omega)
        | ((with_reducible refine Ask.mk ?_); first | exact aAsk | exact aAsk2)
        | ((with_reducible refine Go.ari64 ?_ ?_ ?_); (· exact aBnd); (· exact aBnd))
        | ((with_reducible refine Go.ariu8 ?_ ?_ ?_); (· exact aBnd); (· exact aBnd))
        | (with_reducible refine Go.ari0 ?_)
        | (apply Go.elem; (· exact aElem))
        | (apply Go.row; (· exact aRow))
        | (apply Go.gives; (· exact aGives))
        | (apply Go.gives; (· exact aRes))
        | (with_reducible refine Go.unroll ?_)
        | (with_reducible refine Go.drawn ?_)
        | (refine Go.gt rfl ?_)
        | (refine Go.gf rfl ?_)
        | (with_reducible refine Go.join ?_)
        | (refine Go.lt' rfl ?_)
        | (refine Go.lf' rfl ?_)
        | ((with_reducible refine Go.bool ?_ ?_) <;> intro hc <;> (try simp only [List.length_map, ne_eq, hcs] at hc) <;> try (exfalso; omega))
        | ((with_reducible refine Res.eq ?_ ?_); (· exact aFit)))
    · exact ⟨.inl ⟨rfl, rfl, aNx, aKeep⟩⟩
    · exact ⟨.inr ⟨_, _, rfl, aNx, aNx, aNx, aRow, aKeep⟩⟩
  | cons x t =>
    rw [hes] at hb hsz
    simp only [List.length_cons] at hsz
    repeat' (first
        | ((with_reducible refine Go.red ?_); conv => whnf)
        | (with_reducible refine Go.and ?_ ?_)
        | (with_reducible exact True.intro)
        | (with_reducible refine Go.far ?_)
        | ((with_reducible refine Apt.mk ?_); (try dsimp only); omega)
        | ((with_reducible refine Ask.mk ?_); first | exact aAsk | exact aAsk2)
        | ((with_reducible refine Go.ari64 ?_ ?_ ?_); (· exact aBnd); (· exact aBnd))
        | ((with_reducible refine Go.ariu8 ?_ ?_ ?_); (· exact aBnd); (· exact aBnd))
        | (with_reducible refine Go.ari0 ?_)
        | (apply Go.elem; (· exact aElem))
        | (apply Go.row; (· exact aRow))
        | (apply Go.gives; (· exact aGives))
        | (apply Go.gives; (· exact aRes))
        | (with_reducible refine Go.unroll ?_)
        | (with_reducible refine Go.drawn ?_)
        | (refine Go.gt rfl ?_)
        | (refine Go.gf rfl ?_)
        | (with_reducible refine Go.join ?_)
        | (refine Go.lt' rfl ?_)
        | (refine Go.lf' rfl ?_)
        | ((with_reducible refine Go.bool ?_ ?_) <;> intro hc <;> (try simp only [List.length_map, ne_eq, hcs] at hc) <;> try (exfalso; omega))
        | ((with_reducible refine Res.eq ?_ ?_); (· exact aFit)))
    · exact ⟨.inr ⟨nx + 3, _, (by rw [Nat.zero_add]), aNx, aNx, aNx, aRow, aKeep⟩⟩
theorem clone_stores {H : Hp} {nx b n : Nat} {d : AV} {es : List AV} (hb : getH H b = some (.row 51 3 d es)) (hlt : b < nx) (hsz : es.length * 24 ≤ 140737488355328) (hn : es.length = n) : CallN Try.prog 40 [.sl b n] H nx (Cloned H nx 51 3 es) := by
  subst hn
  refine Cloned.of (by omega) ?_
  refine Go.fn Try.func40 nm40 low40 res40 nt40 rfl ?_
  cases hes : es with
  | nil =>
    rw [hes] at hb hsz
    repeat' (first
        | ((with_reducible refine Go.red ?_); conv => whnf)
        | (with_reducible refine Go.and ?_ ?_)
        | (with_reducible exact True.intro)
        | (with_reducible refine Go.far ?_)
        | ((with_reducible refine Apt.mk ?_); (try dsimp only); omega)
        | ((with_reducible refine Ask.mk ?_); first | exact aAsk | exact aAsk2)
        | ((with_reducible refine Go.ari64 ?_ ?_ ?_); (· exact aBnd); (· exact aBnd))
        | ((with_reducible refine Go.ariu8 ?_ ?_ ?_); (· exact aBnd); (· exact aBnd))
        | (with_reducible refine Go.ari0 ?_)
        | (apply Go.elem; (· exact aElem))
        | (apply Go.row; (· exact aRow))
        | (apply Go.gives; (· exact aGives))
        | (apply Go.gives; (· exact aRes))
        | (with_reducible refine Go.unroll ?_)
        | (with_reducible refine Go.drawn ?_)
        | (refine Go.gt rfl ?_)
        | (refine Go.gf rfl ?_)
        | (with_reducible refine Go.join ?_)
        | (refine Go.lt' rfl ?_)
        | (refine Go.lf' rfl ?_)
        | ((with_reducible refine Go.bool ?_ ?_) <;> intro hc <;> (try simp only [List.length_map, ne_eq, hcs] at hc) <;> try (exfalso; omega))
        | ((with_reducible refine Res.eq ?_ ?_); (· exact aFit)))
    · exact ⟨.inl ⟨rfl, rfl, aNx, aKeep⟩⟩
    · exact ⟨.inr ⟨_, _, rfl, aNx, aNx, aNx, aRow, aKeep⟩⟩
  | cons x t =>
    rw [hes] at hb hsz
    simp only [List.length_cons] at hsz
    repeat' (first
        | ((with_reducible refine Go.red ?_); conv => whnf)
        | (with_reducible refine Go.and ?_ ?_)
        | (with_reducible exact True.intro)
        | (with_reducible refine Go.far ?_)
        | ((with_reducible refine Apt.mk ?_); (try dsimp only); omega)
        | ((with_reducible refine Ask.mk ?_); first | exact aAsk | exact aAsk2)
        | ((with_reducible refine Go.ari64 ?_ ?_ ?_); (· exact aBnd); (· exact aBnd))
        | ((with_reducible refine Go.ariu8 ?_ ?_ ?_); (· exact aBnd); (· exact aBnd))
        | (with_reducible refine Go.ari0 ?_)
        | (apply Go.elem; (· exact aElem))
        | (apply Go.row; (· exact aRow))
        | (apply Go.gives; (· exact aGives))
        | (apply Go.gives; (· exact aRes))
        | (with_reducible refine Go.unroll ?_)
        | (with_reducible refine Go.drawn ?_)
        | (refine Go.gt rfl ?_)
        | (refine Go.gf rfl ?_)
        | (with_reducible refine Go.join ?_)
        | (refine Go.lt' rfl ?_)
        | (refine Go.lf' rfl ?_)
        | ((with_reducible refine Go.bool ?_ ?_) <;> intro hc <;> (try simp only [List.length_map, ne_eq, hcs] at hc) <;> try (exfalso; omega))
        | ((with_reducible refine Res.eq ?_ ?_); (· exact aFit)))
    · exact ⟨.inr ⟨nx + 3, _, (by rw [Nat.zero_add]), aNx, aNx, aNx, aRow, aKeep⟩⟩
theorem clone_prints {H : Hp} {nx b n : Nat} {d : AV} {es : List AV} (hb : getH H b = some (.row 75 2 d es)) (hlt : b < nx) (hsz : es.length * 16 ≤ 140737488355328) (hn : es.length = n) : CallN Try.prog 46 [.sl b n] H nx (Cloned H nx 75 2 es) := by
  subst hn
  refine Cloned.of (by omega) ?_
  refine Go.fn Try.func46 nm46 low46 res46 nt46 rfl ?_
  cases hes : es with
  | nil =>
    rw [hes] at hb hsz
    repeat' (first
        | ((with_reducible refine Go.red ?_); conv => whnf)
        | (with_reducible refine Go.and ?_ ?_)
        | (with_reducible exact True.intro)
        | (with_reducible refine Go.far ?_)
        | ((with_reducible refine Apt.mk ?_); (try dsimp only); omega)
        | ((with_reducible refine Ask.mk ?_); first | exact aAsk | exact aAsk2)
        | ((with_reducible refine Go.ari64 ?_ ?_ ?_); (· exact aBnd); (· exact aBnd))
        | ((with_reducible refine Go.ariu8 ?_ ?_ ?_); (· exact aBnd); (· exact aBnd))
        | (with_reducible refine Go.ari0 ?_)
        | (apply Go.elem; (· exact aElem))
        | (apply Go.row; (· exact aRow))
        | (apply Go.gives; (· exact aGives))
        | (apply Go.gives; (· exact aRes))
        | (with_reducible refine Go.unroll ?_)
        | (with_reducible refine Go.drawn ?_)
        | (refine Go.gt rfl ?_)
        | (refine Go.gf rfl ?_)
        | (with_reducible refine Go.join ?_)
        | (refine Go.lt' rfl ?_)
        | (refine Go.lf' rfl ?_)
        | ((with_reducible refine Go.bool ?_ ?_) <;> intro hc <;> (try simp only [List.length_map, ne_eq, hcs] at hc) <;> try (exfalso; omega))
        | ((with_reducible refine Res.eq ?_ ?_); (· exact aFit)))
    · exact ⟨.inl ⟨rfl, rfl, aNx, aKeep⟩⟩
    · exact ⟨.inr ⟨_, _, rfl, aNx, aNx, aNx, aRow, aKeep⟩⟩
  | cons x t =>
    rw [hes] at hb hsz
    simp only [List.length_cons] at hsz
    repeat' (first
        | ((with_reducible refine Go.red ?_); conv => whnf)
        | (with_reducible refine Go.and ?_ ?_)
        | (with_reducible exact True.intro)
        | (with_reducible refine Go.far ?_)
        | ((with_reducible refine Apt.mk ?_); (try dsimp only); omega)
        | ((with_reducible refine Ask.mk ?_); first | exact aAsk | exact aAsk2)
        | ((with_reducible refine Go.ari64 ?_ ?_ ?_); (· exact aBnd); (· exact aBnd))
        | ((with_reducible refine Go.ariu8 ?_ ?_ ?_); (· exact aBnd); (· exact aBnd))
        | (with_reducible refine Go.ari0 ?_)
        | (apply Go.elem; (· exact aElem))
        | (apply Go.row; (· exact aRow))
        | (apply Go.gives; (· exact aGives))
        | (apply Go.gives; (· exact aRes))
        | (with_reducible refine Go.unroll ?_)
        | (with_reducible refine Go.drawn ?_)
        | (refine Go.gt rfl ?_)
        | (refine Go.gf rfl ?_)
        | (with_reducible refine Go.join ?_)
        | (refine Go.lt' rfl ?_)
        | (refine Go.lf' rfl ?_)
        | ((with_reducible refine Go.bool ?_ ?_) <;> intro hc <;> (try simp only [List.length_map, ne_eq, hcs] at hc) <;> try (exfalso; omega))
        | ((with_reducible refine Res.eq ?_ ?_); (· exact aFit)))
    · exact ⟨.inr ⟨nx + 3, _, (by rw [Nat.zero_add]), aNx, aNx, aNx, aRow, aKeep⟩⟩
theorem clone_cores {H : Hp} {nx b n : Nat} {d : AV} {es : List AV} (hb : getH H b = some (.row 98 19 d es)) (hlt : b < nx) (hsz : es.length * 168 ≤ 140737488355328) (hn : es.length = n) : CallN Try.prog 45 [.sl b n] H nx (Cloned H nx 98 19 es) := by
  subst hn
  refine Cloned.of (by omega) ?_
  refine Go.fn Try.func45 nm45 low45 res45 nt45 rfl ?_
  cases hes : es with
  | nil =>
    rw [hes] at hb hsz
    repeat' (first
        | ((with_reducible refine Go.red ?_); conv => whnf)
        | (with_reducible refine Go.and ?_ ?_)
        | (with_reducible exact True.intro)
        | (with_reducible refine Go.far ?_)
        | ((with_reducible refine Apt.mk ?_); (try dsimp only); omega)
        | ((with_reducible refine Ask.mk ?_); first | exact aAsk | exact aAsk2)
        | ((with_reducible refine Go.ari64 ?_ ?_ ?_); (· exact aBnd); (· exact aBnd))
        | ((with_reducible refine Go.ariu8 ?_ ?_ ?_); (· exact aBnd); (· exact aBnd))
        | (with_reducible refine Go.ari0 ?_)
        | (apply Go.elem; (· exact aElem))
        | (apply Go.row; (· exact aRow))
        | (apply Go.gives; (· exact aGives))
        | (apply Go.gives; (· exact aRes))
        | (with_reducible refine Go.unroll ?_)
        | (with_reducible refine Go.drawn ?_)
        | (refine Go.gt rfl ?_)
        | (refine Go.gf rfl ?_)
        | (with_reducible refine Go.join ?_)
        | (refine Go.lt' rfl ?_)
        | (refine Go.lf' rfl ?_)
        | ((with_reducible refine Go.bool ?_ ?_) <;> intro hc <;> (try simp only [List.length_map, ne_eq, hcs] at hc) <;> try (exfalso; omega))
        | ((with_reducible refine Res.eq ?_ ?_); (· exact aFit)))
    · exact ⟨.inl ⟨rfl, rfl, aNx, aKeep⟩⟩
    · exact ⟨.inr ⟨_, _, rfl, aNx, aNx, aNx, aRow, aKeep⟩⟩
  | cons x t =>
    rw [hes] at hb hsz
    simp only [List.length_cons] at hsz
    repeat' (first
        | ((with_reducible refine Go.red ?_); conv => whnf)
        | (with_reducible refine Go.and ?_ ?_)
        | (with_reducible exact True.intro)
        | (with_reducible refine Go.far ?_)
        | ((with_reducible refine Apt.mk ?_); (try dsimp only); omega)
        | ((with_reducible refine Ask.mk ?_); first | exact aAsk | exact aAsk2)
        | ((with_reducible refine Go.ari64 ?_ ?_ ?_); (· exact aBnd); (· exact aBnd))
        | ((with_reducible refine Go.ariu8 ?_ ?_ ?_); (· exact aBnd); (· exact aBnd))
        | (with_reducible refine Go.ari0 ?_)
        | (apply Go.elem; (· exact aElem))
        | (apply Go.row; (· exact aRow))
        | (apply Go.gives; (· exact aGives))
        | (apply Go.gives; (· exact aRes))
        | (with_reducible refine Go.unroll ?_)
        | (with_reducible refine Go.drawn ?_)
        | (refine Go.gt rfl ?_)
        | (refine Go.gf rfl ?_)
        | (with_reducible refine Go.join ?_)
        | (refine Go.lt' rfl ?_)
        | (refine Go.lf' rfl ?_)
        | ((with_reducible refine Go.bool ?_ ?_) <;> intro hc <;> (try simp only [List.length_map, ne_eq, hcs] at hc) <;> try (exfalso; omega))
        | ((with_reducible refine Res.eq ?_ ?_); (· exact aFit)))
    · exact ⟨.inr ⟨nx + 3, _, (by rw [Nat.zero_add]), aNx, aNx, aNx, aRow, aKeep⟩⟩
theorem cores_call {o : Obj} {s : Mach} {L : Lay} {H : Hp} {nx : Nat} (h : MAt o s L H nx) : Look Try.prog 15 [.pt L.m 1 0 0] H nx (i64 s.cores.length) := by
  refine Go.lookAt Try.func15 nm15 low15 res15 nt15 rfl ?_
  obtain ⟨dm, rm⟩ := h.m
  obtain ⟨dc, rc⟩ := h.c
  have hel := rows_len h
  repeat' (first
    | ((with_reducible refine Go.red ?_); conv => whnf)
    | (with_reducible refine Go.and ?_ ?_)
    | (with_reducible exact True.intro)
    | (with_reducible refine Go.far ?_)
    | ((with_reducible refine Apt.mk ?_); (try dsimp only); omega)
    | ((with_reducible refine Ask.mk ?_); first | exact aAsk | exact aAsk2)
    | ((with_reducible refine Go.ari64 ?_ ?_ ?_); (· exact aBnd); (· exact aBnd))
    | ((with_reducible refine Go.ariu8 ?_ ?_ ?_); (· exact aBnd); (· exact aBnd))
    | (with_reducible refine Go.ari0 ?_)
    | (apply Go.elem; (· exact aElem))
    | (apply Go.row; (· exact aRow))
    | (apply Go.gives; (· exact aGives))
    | (apply Go.gives; (· exact aRes))
    | (with_reducible refine Go.unroll ?_)
    | (with_reducible refine Go.drawn ?_)
    | (refine Go.gt rfl ?_)
    | (refine Go.gf rfl ?_)
    | (with_reducible refine Go.join ?_)
    | (refine Go.lt' rfl ?_)
    | (refine Go.lf' rfl ?_)
    | ((with_reducible refine Go.bool ?_ ?_) <;> intro hc <;> (try simp only [List.length_map, ne_eq, hcs] at hc) <;> try (exfalso; omega))
    | ((with_reducible refine Res.eq ?_ ?_); (· exact aFit)))
  · exact ResN.look rfl aKeep
theorem memory_call {o : Obj} {s : Mach} {L : Lay} {H : Hp} {nx : Nat} (h : MAt o s L H nx) (hm : s.mem.length ≤ 4096) : CallN Try.prog 18 [.pt L.m 1 0 0] H nx (Cloned H nx 2 1 (s.mem.map i64)) := by
  refine Go.fn Try.func18 nm18 low18 res18 nt18 rfl ?_
  obtain ⟨dm, rm⟩ := h.m
  obtain ⟨dc, rc⟩ := h.mem
  have l1 := h.lt L.m (by simp [Lay.ids])
  have l2 := h.lt L.mem (by simp [Lay.ids])
  repeat' (first
    | ((with_reducible refine Go.red ?_); conv => whnf)
    | (with_reducible refine Go.and ?_ ?_)
    | (with_reducible exact True.intro)
    | (with_reducible refine Go.far ?_)
    | ((with_reducible refine Apt.mk ?_); (try dsimp only); omega)
    | ((with_reducible refine Ask.mk ?_); first | exact aAsk | exact aAsk2)
    | ((with_reducible refine Go.ari64 ?_ ?_ ?_); (· exact aBnd); (· exact aBnd))
    | ((with_reducible refine Go.ariu8 ?_ ?_ ?_); (· exact aBnd); (· exact aBnd))
    | (with_reducible refine Go.ari0 ?_)
    | (apply Go.elem; (· exact aElem))
    | (apply Go.row; (· exact aRow))
    | (apply Go.gives; (· exact aGives))
    | (apply Go.gives; (· exact aRes))
    | (with_reducible refine Go.unroll ?_)
    | (with_reducible refine Go.drawn ?_)
    | (refine Go.gt rfl ?_)
    | (refine Go.gf rfl ?_)
    | (with_reducible refine Go.join ?_)
    | (refine Go.lt' rfl ?_)
    | (refine Go.lf' rfl ?_)
    | ((with_reducible refine Go.bool ?_ ?_) <;> intro hc <;> (try simp only [List.length_map, ne_eq, hcs] at hc) <;> try (exfalso; omega))
    | ((with_reducible refine Res.eq ?_ ?_); (· exact aFit)))
  refine Go.callN (clone_words (es := s.mem.map i64) aRow aNx (by rw [List.length_map]; omega) (by simp)) ?_
  rintro _ H2 n2 ⟨b', d', rfl, h1, h2, h3, h4, h5⟩
  have e1 : nx + 2 ≤ b' := Nat.le_trans aNx h1
  have e2 : nx + 2 ≤ n2 := Nat.le_trans aNx h3
  have e3 : ∀ b, b < nx → getH H2 b = getH H b := fun b hb => (h5 b aNx).trans (by repeat (first | exact rfl | (refine Eq.trans (getH_skipEq (by omega)) ?_)))
  clear h1 h3 h5
  repeat' (first
    | ((with_reducible refine Go.red ?_); conv => whnf)
    | (with_reducible refine Go.and ?_ ?_)
    | (with_reducible exact True.intro)
    | (with_reducible refine Go.far ?_)
    | ((with_reducible refine Apt.mk ?_); (try dsimp only); omega)
    | ((with_reducible refine Ask.mk ?_); first | exact aAsk | exact aAsk2)
    | ((with_reducible refine Go.ari64 ?_ ?_ ?_); (· exact aBnd); (· exact aBnd))
    | ((with_reducible refine Go.ariu8 ?_ ?_ ?_); (· exact aBnd); (· exact aBnd))
    | (with_reducible refine Go.ari0 ?_)
    | (apply Go.elem; (· exact aElem))
    | (apply Go.row; (· exact aRow))
    | (apply Go.gives; (· exact aGives))
    | (apply Go.gives; (· exact aRes))
    | (with_reducible refine Go.unroll ?_)
    | (with_reducible refine Go.drawn ?_)
    | (refine Go.gt rfl ?_)
    | (refine Go.gf rfl ?_)
    | (with_reducible refine Go.join ?_)
    | (refine Go.lt' rfl ?_)
    | (refine Go.lf' rfl ?_)
    | ((with_reducible refine Go.bool ?_ ?_) <;> intro hc <;> (try simp only [List.length_map, ne_eq, hcs] at hc) <;> try (exfalso; omega))
    | ((with_reducible refine Res.eq ?_ ?_); (· exact aFit)))
  exact ⟨b', d', rfl, aNx, aNx, aNx, aRow, (by intro b hb; repeat (first | exact e3 b hb | (refine Eq.trans (getH_skipEq (by omega)) ?_)))⟩

theorem clone_words_im {es : List AV} (hsz : es.length * 8 ≤ 140737488355328) : CallN Try.prog 39 [.im 1 .any es] [] 0 (Cloned [] 0 2 1 es) := by
  refine Cloned.of (by omega) ?_
  refine Go.fn Try.func39 nm39 low39 res39 nt39 rfl ?_
  cases hes : es with
  | nil =>
    repeat' (first
        | ((with_reducible refine Go.red ?_); conv => whnf)
        | (with_reducible refine Go.and ?_ ?_)
        | (with_reducible exact True.intro)
        | (with_reducible refine Go.far ?_)
        | ((with_reducible refine Apt.mk ?_); (try dsimp only); omega)
        | ((with_reducible refine Ask.mk ?_); first | exact aAsk | exact aAsk2)
        | ((with_reducible refine Go.ari64 ?_ ?_ ?_); (· exact aBnd); (· exact aBnd))
        | ((with_reducible refine Go.ariu8 ?_ ?_ ?_); (· exact aBnd); (· exact aBnd))
        | (with_reducible refine Go.ari0 ?_)
        | (apply Go.elem; (· exact aElem))
        | (apply Go.row; (· exact aRow))
        | (apply Go.gives; (· exact aGives))
        | (apply Go.gives; (· exact aRes))
        | (with_reducible refine Go.unroll ?_)
        | (with_reducible refine Go.drawn ?_)
        | (refine Go.gt rfl ?_)
        | (refine Go.gf rfl ?_)
        | (with_reducible refine Go.join ?_)
        | (refine Go.lt' rfl ?_)
        | (refine Go.lf' rfl ?_)
        | ((with_reducible refine Go.bool ?_ ?_) <;> intro hc <;> (try simp only [List.length_map, ne_eq, hcs] at hc) <;> try (exfalso; omega))
        | ((with_reducible refine Res.eq ?_ ?_); (· exact aFit)))
    · exact ⟨.inl ⟨rfl, rfl, aNx, aKeep⟩⟩
    · exact ⟨.inr ⟨_, _, rfl, aNx, aNx, aNx, aRow, aKeep⟩⟩
  | cons x t =>
    rw [hes] at hsz
    simp only [List.length_cons] at hsz
    repeat' (first
        | ((with_reducible refine Go.red ?_); conv => whnf)
        | (with_reducible refine Go.and ?_ ?_)
        | (with_reducible exact True.intro)
        | (with_reducible refine Go.far ?_)
        | ((with_reducible refine Apt.mk ?_); (try dsimp only); omega)
        | ((with_reducible refine Ask.mk ?_); first | exact aAsk | exact aAsk2)
        | ((with_reducible refine Go.ari64 ?_ ?_ ?_); (· exact aBnd); (· exact aBnd))
        | ((with_reducible refine Go.ariu8 ?_ ?_ ?_); (· exact aBnd); (· exact aBnd))
        | (with_reducible refine Go.ari0 ?_)
        | (apply Go.elem; (· exact aElem))
        | (apply Go.row; (· exact aRow))
        | (apply Go.gives; (· exact aGives))
        | (apply Go.gives; (· exact aRes))
        | (with_reducible refine Go.unroll ?_)
        | (with_reducible refine Go.drawn ?_)
        | (refine Go.gt rfl ?_)
        | (refine Go.gf rfl ?_)
        | (with_reducible refine Go.join ?_)
        | (refine Go.lt' rfl ?_)
        | (refine Go.lf' rfl ?_)
        | ((with_reducible refine Go.bool ?_ ?_) <;> intro hc <;> (try simp only [List.length_map, ne_eq, hcs] at hc) <;> try (exfalso; omega))
        | ((with_reducible refine Res.eq ?_ ?_); (· exact aFit)))
    · exact ⟨.inr ⟨3, _, (by simp), aNx, aNx, aNx, aRow, aKeep⟩⟩
theorem clone_words_mk {es : List AV} (hsz : es.length * 8 ≤ 140737488355328) : CallN Try.prog 39 [.im 1 .any es] [] 0 (fun r1 H1 _ => ∃ b d0, r1 = .sl b es.length ∧ getH H1 b = some (.row 2 1 d0 es)) :=
  (clone_words_im hsz).mono fun r H n ⟨b, d, h1, _, _, _, h2, _⟩ => ⟨b, d, h1, h2⟩
theorem clone_words_pure {es : List AV} (hsz : es.length * 8 ≤ 140737488355328) (hf : fitL 0 es) : Pure Try.prog 39 [.im 1 .any es] (fun r => r = .im 1 .any es) := (clone_words_mk hsz).pureIm hf
theorem clone_stores_im {es : List AV} (hsz : es.length * 24 ≤ 140737488355328) : CallN Try.prog 40 [.im 3 .any es] [] 0 (Cloned [] 0 51 3 es) := by
  refine Cloned.of (by omega) ?_
  refine Go.fn Try.func40 nm40 low40 res40 nt40 rfl ?_
  cases hes : es with
  | nil =>
    repeat' (first
        | ((with_reducible refine Go.red ?_); conv => whnf)
        | (with_reducible refine Go.and ?_ ?_)
        | (with_reducible exact True.intro)
        | (with_reducible refine Go.far ?_)
        | ((with_reducible refine Apt.mk ?_); (try dsimp only); omega)
        | ((with_reducible refine Ask.mk ?_); first | exact aAsk | exact aAsk2)
        | ((with_reducible refine Go.ari64 ?_ ?_ ?_); (· exact aBnd); (· exact aBnd))
        | ((with_reducible refine Go.ariu8 ?_ ?_ ?_); (· exact aBnd); (· exact aBnd))
        | (with_reducible refine Go.ari0 ?_)
        | (apply Go.elem; (· exact aElem))
        | (apply Go.row; (· exact aRow))
        | (apply Go.gives; (· exact aGives))
        | (apply Go.gives; (· exact aRes))
        | (with_reducible refine Go.unroll ?_)
        | (with_reducible refine Go.drawn ?_)
        | (refine Go.gt rfl ?_)
        | (refine Go.gf rfl ?_)
        | (with_reducible refine Go.join ?_)
        | (refine Go.lt' rfl ?_)
        | (refine Go.lf' rfl ?_)
        | ((with_reducible refine Go.bool ?_ ?_) <;> intro hc <;> (try simp only [List.length_map, ne_eq, hcs] at hc) <;> try (exfalso; omega))
        | ((with_reducible refine Res.eq ?_ ?_); (· exact aFit)))
    · exact ⟨.inl ⟨rfl, rfl, aNx, aKeep⟩⟩
    · exact ⟨.inr ⟨_, _, rfl, aNx, aNx, aNx, aRow, aKeep⟩⟩
  | cons x t =>
    rw [hes] at hsz
    simp only [List.length_cons] at hsz
    repeat' (first
        | ((with_reducible refine Go.red ?_); conv => whnf)
        | (with_reducible refine Go.and ?_ ?_)
        | (with_reducible exact True.intro)
        | (with_reducible refine Go.far ?_)
        | ((with_reducible refine Apt.mk ?_); (try dsimp only); omega)
        | ((with_reducible refine Ask.mk ?_); first | exact aAsk | exact aAsk2)
        | ((with_reducible refine Go.ari64 ?_ ?_ ?_); (· exact aBnd); (· exact aBnd))
        | ((with_reducible refine Go.ariu8 ?_ ?_ ?_); (· exact aBnd); (· exact aBnd))
        | (with_reducible refine Go.ari0 ?_)
        | (apply Go.elem; (· exact aElem))
        | (apply Go.row; (· exact aRow))
        | (apply Go.gives; (· exact aGives))
        | (apply Go.gives; (· exact aRes))
        | (with_reducible refine Go.unroll ?_)
        | (with_reducible refine Go.drawn ?_)
        | (refine Go.gt rfl ?_)
        | (refine Go.gf rfl ?_)
        | (with_reducible refine Go.join ?_)
        | (refine Go.lt' rfl ?_)
        | (refine Go.lf' rfl ?_)
        | ((with_reducible refine Go.bool ?_ ?_) <;> intro hc <;> (try simp only [List.length_map, ne_eq, hcs] at hc) <;> try (exfalso; omega))
        | ((with_reducible refine Res.eq ?_ ?_); (· exact aFit)))
    · exact ⟨.inr ⟨3, _, (by simp), aNx, aNx, aNx, aRow, aKeep⟩⟩
theorem clone_stores_mk {es : List AV} (hsz : es.length * 24 ≤ 140737488355328) : CallN Try.prog 40 [.im 3 .any es] [] 0 (fun r1 H1 _ => ∃ b d0, r1 = .sl b es.length ∧ getH H1 b = some (.row 51 3 d0 es)) :=
  (clone_stores_im hsz).mono fun r H n ⟨b, d, h1, _, _, _, h2, _⟩ => ⟨b, d, h1, h2⟩
theorem clone_stores_pure {es : List AV} (hsz : es.length * 24 ≤ 140737488355328) (hf : fitL 0 es) : Pure Try.prog 40 [.im 3 .any es] (fun r => r = .im 3 .any es) := (clone_stores_mk hsz).pureIm hf
theorem clone_prints_im {es : List AV} (hsz : es.length * 16 ≤ 140737488355328) : CallN Try.prog 46 [.im 2 .any es] [] 0 (Cloned [] 0 75 2 es) := by
  refine Cloned.of (by omega) ?_
  refine Go.fn Try.func46 nm46 low46 res46 nt46 rfl ?_
  cases hes : es with
  | nil =>
    repeat' (first
        | ((with_reducible refine Go.red ?_); conv => whnf)
        | (with_reducible refine Go.and ?_ ?_)
        | (with_reducible exact True.intro)
        | (with_reducible refine Go.far ?_)
        | ((with_reducible refine Apt.mk ?_); (try dsimp only); omega)
        | ((with_reducible refine Ask.mk ?_); first | exact aAsk | exact aAsk2)
        | ((with_reducible refine Go.ari64 ?_ ?_ ?_); (· exact aBnd); (· exact aBnd))
        | ((with_reducible refine Go.ariu8 ?_ ?_ ?_); (· exact aBnd); (· exact aBnd))
        | (with_reducible refine Go.ari0 ?_)
        | (apply Go.elem; (· exact aElem))
        | (apply Go.row; (· exact aRow))
        | (apply Go.gives; (· exact aGives))
        | (apply Go.gives; (· exact aRes))
        | (with_reducible refine Go.unroll ?_)
        | (with_reducible refine Go.drawn ?_)
        | (refine Go.gt rfl ?_)
        | (refine Go.gf rfl ?_)
        | (with_reducible refine Go.join ?_)
        | (refine Go.lt' rfl ?_)
        | (refine Go.lf' rfl ?_)
        | ((with_reducible refine Go.bool ?_ ?_) <;> intro hc <;> (try simp only [List.length_map, ne_eq, hcs] at hc) <;> try (exfalso; omega))
        | ((with_reducible refine Res.eq ?_ ?_); (· exact aFit)))
    · exact ⟨.inl ⟨rfl, rfl, aNx, aKeep⟩⟩
    · exact ⟨.inr ⟨_, _, rfl, aNx, aNx, aNx, aRow, aKeep⟩⟩
  | cons x t =>
    rw [hes] at hsz
    simp only [List.length_cons] at hsz
    repeat' (first
        | ((with_reducible refine Go.red ?_); conv => whnf)
        | (with_reducible refine Go.and ?_ ?_)
        | (with_reducible exact True.intro)
        | (with_reducible refine Go.far ?_)
        | ((with_reducible refine Apt.mk ?_); (try dsimp only); omega)
        | ((with_reducible refine Ask.mk ?_); first | exact aAsk | exact aAsk2)
        | ((with_reducible refine Go.ari64 ?_ ?_ ?_); (· exact aBnd); (· exact aBnd))
        | ((with_reducible refine Go.ariu8 ?_ ?_ ?_); (· exact aBnd); (· exact aBnd))
        | (with_reducible refine Go.ari0 ?_)
        | (apply Go.elem; (· exact aElem))
        | (apply Go.row; (· exact aRow))
        | (apply Go.gives; (· exact aGives))
        | (apply Go.gives; (· exact aRes))
        | (with_reducible refine Go.unroll ?_)
        | (with_reducible refine Go.drawn ?_)
        | (refine Go.gt rfl ?_)
        | (refine Go.gf rfl ?_)
        | (with_reducible refine Go.join ?_)
        | (refine Go.lt' rfl ?_)
        | (refine Go.lf' rfl ?_)
        | ((with_reducible refine Go.bool ?_ ?_) <;> intro hc <;> (try simp only [List.length_map, ne_eq, hcs] at hc) <;> try (exfalso; omega))
        | ((with_reducible refine Res.eq ?_ ?_); (· exact aFit)))
    · exact ⟨.inr ⟨3, _, (by simp), aNx, aNx, aNx, aRow, aKeep⟩⟩
theorem clone_prints_mk {es : List AV} (hsz : es.length * 16 ≤ 140737488355328) : CallN Try.prog 46 [.im 2 .any es] [] 0 (fun r1 H1 _ => ∃ b d0, r1 = .sl b es.length ∧ getH H1 b = some (.row 75 2 d0 es)) :=
  (clone_prints_im hsz).mono fun r H n ⟨b, d, h1, _, _, _, h2, _⟩ => ⟨b, d, h1, h2⟩
theorem clone_prints_pure {es : List AV} (hsz : es.length * 16 ≤ 140737488355328) (hf : fitL 0 es) : Pure Try.prog 46 [.im 2 .any es] (fun r => r = .im 2 .any es) := (clone_prints_mk hsz).pureIm hf
theorem clone_code_im {es : List AV} (hsz : es.length * 64 ≤ 140737488355328) : CallN Try.prog 50 [.im 9 .any es] [] 0 (Cloned [] 0 85 9 es) := by
  refine Cloned.of (by omega) ?_
  refine Go.fn Try.func50 nm50 low50 res50 nt50 rfl ?_
  cases hes : es with
  | nil =>
    repeat' (first
        | ((with_reducible refine Go.red ?_); conv => whnf)
        | (with_reducible refine Go.and ?_ ?_)
        | (with_reducible exact True.intro)
        | (with_reducible refine Go.far ?_)
        | ((with_reducible refine Apt.mk ?_); (try dsimp only); omega)
        | ((with_reducible refine Ask.mk ?_); first | exact aAsk | exact aAsk2)
        | ((with_reducible refine Go.ari64 ?_ ?_ ?_); (· exact aBnd); (· exact aBnd))
        | ((with_reducible refine Go.ariu8 ?_ ?_ ?_); (· exact aBnd); (· exact aBnd))
        | (with_reducible refine Go.ari0 ?_)
        | (apply Go.elem; (· exact aElem))
        | (apply Go.row; (· exact aRow))
        | (apply Go.gives; (· exact aGives))
        | (apply Go.gives; (· exact aRes))
        | (with_reducible refine Go.unroll ?_)
        | (with_reducible refine Go.drawn ?_)
        | (refine Go.gt rfl ?_)
        | (refine Go.gf rfl ?_)
        | (with_reducible refine Go.join ?_)
        | (refine Go.lt' rfl ?_)
        | (refine Go.lf' rfl ?_)
        | ((with_reducible refine Go.bool ?_ ?_) <;> intro hc <;> (try simp only [List.length_map, ne_eq, hcs] at hc) <;> try (exfalso; omega))
        | ((with_reducible refine Res.eq ?_ ?_); (· exact aFit)))
    · exact ⟨.inl ⟨rfl, rfl, aNx, aKeep⟩⟩
    · exact ⟨.inr ⟨_, _, rfl, aNx, aNx, aNx, aRow, aKeep⟩⟩
  | cons x t =>
    rw [hes] at hsz
    simp only [List.length_cons] at hsz
    repeat' (first
        | ((with_reducible refine Go.red ?_); conv => whnf)
        | (with_reducible refine Go.and ?_ ?_)
        | (with_reducible exact True.intro)
        | (with_reducible refine Go.far ?_)
        | ((with_reducible refine Apt.mk ?_); (try dsimp only); omega)
        | ((with_reducible refine Ask.mk ?_); first | exact aAsk | exact aAsk2)
        | ((with_reducible refine Go.ari64 ?_ ?_ ?_); (· exact aBnd); (· exact aBnd))
        | ((with_reducible refine Go.ariu8 ?_ ?_ ?_); (· exact aBnd); (· exact aBnd))
        | (with_reducible refine Go.ari0 ?_)
        | (apply Go.elem; (· exact aElem))
        | (apply Go.row; (· exact aRow))
        | (apply Go.gives; (· exact aGives))
        | (apply Go.gives; (· exact aRes))
        | (with_reducible refine Go.unroll ?_)
        | (with_reducible refine Go.drawn ?_)
        | (refine Go.gt rfl ?_)
        | (refine Go.gf rfl ?_)
        | (with_reducible refine Go.join ?_)
        | (refine Go.lt' rfl ?_)
        | (refine Go.lf' rfl ?_)
        | ((with_reducible refine Go.bool ?_ ?_) <;> intro hc <;> (try simp only [List.length_map, ne_eq, hcs] at hc) <;> try (exfalso; omega))
        | ((with_reducible refine Res.eq ?_ ?_); (· exact aFit)))
    · exact ⟨.inr ⟨3, _, (by simp), aNx, aNx, aNx, aRow, aKeep⟩⟩
theorem clone_code_mk {es : List AV} (hsz : es.length * 64 ≤ 140737488355328) : CallN Try.prog 50 [.im 9 .any es] [] 0 (fun r1 H1 _ => ∃ b d0, r1 = .sl b es.length ∧ getH H1 b = some (.row 85 9 d0 es)) :=
  (clone_code_im hsz).mono fun r H n ⟨b, d, h1, _, _, _, h2, _⟩ => ⟨b, d, h1, h2⟩
theorem clone_code_pure {es : List AV} (hsz : es.length * 64 ≤ 140737488355328) (hf : fitL 0 es) : Pure Try.prog 50 [.im 9 .any es] (fun r => r = .im 9 .any es) := (clone_code_mk hsz).pureIm hf
end Go.Proofs.Ytliabecchkolgaa
