/- The document's machine drains. -/
import Derived.Test.YtliabecchkolgaaGreatWe
namespace Go.Proofs.YtliabecchkolgaaGreat
open Go Go.Abs Go.Proofs
set_option linter.unusedSimpArgs false
set_option linter.unusedVariables false
theorem frz_tail {H : Hp} {b : Nat} {d : AV} {c : CoreS} {x : StoreS} {t : List StoreS} {n : Nat} (h : getH H b = some (.row 97 3 d (c.buf.map StoreS.av))) (hb : c.buf = x :: t) (hn : c.buf.length = n) : Abs.frz H 3 (.agg (c.cells (.sv b n 1 (n - 1)))) = CoreS.frozen { c with buf := t } := by
  subst hn
  have e : ((c.buf.map StoreS.av).drop 1).take (c.buf.length - 1) = t.map StoreS.av := by
    rw [hb]; simp only [List.map_cons, List.drop_succ_cons, List.drop_zero, List.length_cons, Nat.add_sub_cancel]
    exact List.take_of_length_le (by simp)
  simp only [Abs.frz, CoreS.cells, List.map_cons, List.map_nil, frz_sc, h]
  rw [if_pos (by simp), e, frz_same 1 (by simp [fitL_map, fitA, fitL])]
  rfl
@[simp] theorem fit_put (n : Nat) (l : List Int) (i : Nat) (w : Int) : fitL n ((l.map i64).set i (i64 w)) := by
  rw [← List.map_set, fitL_map]; exact fun _ _ => trivial
theorem fin_drain {o : Obj} {s : Mach} {K : RLay} {H : Hp} {q : Nat} {x : AV} {c : CoreS} {mem : List Int} {pr : List PrintS} {did : DidS} {dd : List AV} {dc : AV} {k l : Nat}
    (hBl : K.bufs.length = s.cores.length)
    (hc : getH H K.c = some (.row 81 19 dc ((mixed s K.bufs).set q x)))
    (hx : Abs.frz H 3 x = c.frozen)
    (hB : ∀ j, j < s.cores.length → j ≠ q → ∃ d, getH H (K.bufs.getD j 0) = some (.row 97 3 d ((s.core j).buf.map StoreS.av)))
    (hm : ∃ d es, getH H K.mem = some (.row 2 1 d es) ∧ es = mem.map i64) (hk : mem.length = k) (hp : ∃ d es, getH H K.pr = some (.row 105 2 d es) ∧ es = pr.map PrintS.av) (hl : pr.length = l) (hd : AV.agg dd = did.av) :
    AV.tup [AV.agg (List.map (Abs.frz H 4) [.im 1 .any (o.mem.map i64), i64 o.shared, i64 o.locks, i64 o.buffer, .im 2 .any (o.cores.map Core.av), .sl K.c s.cores.length, .sl K.mem k, .sl K.pr l]), AV.agg (List.map (Abs.frz H 4) dd), i64 0] = outAv o ({ s.setCore q c with mem := mem, prints := pr }, did, 0) := by
  obtain ⟨d1, es1, hm, rfl⟩ := hm
  obtain ⟨d2, es2, hp, rfl⟩ := hp
  have h1 := out_frz (o := o) (s := { s.setCore q c with mem := mem, prints := pr }) 0 (n := s.cores.length) (k := k) (l := l) hc (by simp [mixed_len hBl]) (set_frz hBl hx hB) hm (by simp [hk]) hp (by simp [hl])
  have h2 : List.map (Abs.frz H 4) dd = dd := frz_same 4 (by injection hd with hd; rw [hd]; simp [fitL, fitA])
  rw [h2, hd]
  exact congrArg (fun z => AV.tup [AV.agg z, did.av, i64 0]) h1
set_option maxHeartbeats 4000000 in
theorem rdrain_pure {o : Obj} {s : Mach} (g : Good o s) (ok : ObjOk o) (hpl : (s.prints.length + 1) * 16 ≤ 140737488355328) (q : Nat) (hq : q < s.cores.length) : Pure Tryz.prog 34 [stAv o s, i64 q] (fun r => r = outAv o (drainS o s q)) := by
  refine Go.pure Tryz.func34 nm34 low34 res34 nt34 rfl ?_
  have hk : ¬ out s q := by unfold out; omega
  rw [drainS, if_neg hk, Int.toNat_natCast]
  cases hb : (s.core q).buf with
  | nil =>
    have hb0 : (s.core q).buf.length = 0 := by rw [hb]; rfl
    repeat' (first
        | ((with_reducible refine Go.red ?_); conv => whnf)
        | (with_reducible refine Go.and ?_ ?_)
        | (with_reducible exact True.intro)
        | (with_reducible refine Go.far ?_)
        | ((with_reducible refine Apt.mk ?_); (try dsimp only); omega)
        | ((with_reducible refine Ask.mk ?_); first | exact aAsk | exact aAsk2)
        | ((with_reducible refine Go.ari64 ?_ ?_ ?_); (· exact aBnd); (· exact aBnd))
        | ((with_reducible refine Go.ariu8 ?_ ?_ ?_); (· exact aBnd); (· exact aBnd))
        | (with_reducible refine Go.ari0 ?_)
        | (apply Go.elem; (· (first | exact frozen_at hq _ | exact aElem)))
        | (apply Go.row; (· exact aRow))
        | (apply Go.gives; (· exact aGives))
        | (apply Go.gives; (· exact aRes))
        | (with_reducible refine Go.unroll ?_)
        | (refine Go.gt rfl ?_)
        | (refine Go.gf rfl ?_)
        | (with_reducible refine Go.join ?_)
        | (refine Go.lt' rfl ?_)
        | (refine Go.lf' rfl ?_)
        | ((with_reducible refine Go.bool ?_ ?_) <;> intro hc <;> (try simp only [List.length_map, ne_eq, hcs] at hc) <;> try (exfalso; omega))
        | ((with_reducible refine Res.eq ?_ ?_); (· exact aFit)))
    show AV.tup [AV.agg (List.map (Abs.frz _ 4) _), AV.agg (List.map (Abs.frz _ 4) _), _] = _
    rw [frz_same 4 (by simp [fitL, fitA, fitL_map]), frz_same 4 (by simp [fitL, fitA])]
    rfl
  | cons x t =>
    have hb0 : (s.core q).buf.length = t.length + 1 := by rw [hb]; rfl
    have hx0 : (s.core q).buf.getD 0 default = x := by rw [hb]; rfl
    have hadr : 0 ≤ ((s.core q).buf.getD (Int.toNat 0) default).addr ∧ ((s.core q).buf.getD (Int.toNat 0) default).addr < s.mem.length := by rw [show ((s.core q).buf.getD (Int.toNat 0) default) = x from hx0]; exact g.addr q hq x (by rw [hb]; simp)
    repeat' (first
        | ((with_reducible refine Go.red ?_); conv => whnf)
        | (with_reducible refine Go.and ?_ ?_)
        | (with_reducible exact True.intro)
        | (with_reducible refine Go.far ?_)
        | ((with_reducible refine Apt.mk ?_); (try dsimp only); omega)
        | ((with_reducible refine Ask.mk ?_); first | exact aAsk | exact aAsk2)
        | ((with_reducible refine Go.ari64 ?_ ?_ ?_); (· exact aBnd); (· exact aBnd))
        | ((with_reducible refine Go.ariu8 ?_ ?_ ?_); (· exact aBnd); (· exact aBnd))
        | (with_reducible refine Go.ari0 ?_)
        | (apply Go.elem; (· (first | exact frozen_at hq _ | exact aElem)))
        | (apply Go.row; (· exact aRow))
        | (apply Go.gives; (· exact aGives))
        | (apply Go.gives; (· exact aRes))
        | (with_reducible refine Go.unroll ?_)
        | (refine Go.gt rfl ?_)
        | (refine Go.gf rfl ?_)
        | (with_reducible refine Go.join ?_)
        | (refine Go.lt' rfl ?_)
        | (refine Go.lf' rfl ?_)
        | ((with_reducible refine Go.bool ?_ ?_) <;> intro hc <;> (try simp only [List.length_map, ne_eq, hcs] at hc) <;> try (exfalso; omega))
        | ((with_reducible refine Res.eq ?_ ?_); (· exact aFit)))
    refine Go.callN (copy_call o (g.lookable ok (by omega)) (by omega)) ?_
    rintro _ H2 n2 ⟨K, rfl, hR, hn2, hf2⟩
    have hn3 : 4 ≤ n2 := Nat.le_trans aNx hn2
    have r0 : ∃ d e, getH H2 0 = some (.row 39 8 d [.agg e]) ∧ e.length = 8 := ⟨_, _, (hf2 0 aNx).trans aRow, rfl⟩
    obtain ⟨d0, e0, r0, he0⟩ := r0
    have r1 : ∃ d e, getH H2 1 = some (.row 39 8 d [.agg e]) ∧ e.length = 8 := ⟨_, _, (hf2 1 aNx).trans aRow, rfl⟩
    obtain ⟨d1, e1, r1, he1⟩ := r1
    have r2 : ∃ d e, getH H2 2 = some (.row 44 7 d [.agg e]) ∧ e.length = 7 := ⟨_, _, (hf2 2 aNx).trans aRow, rfl⟩
    obtain ⟨d2, e2, r2, he2⟩ := r2
    clear hf2
    obtain ⟨⟨dc, rc⟩, ⟨dm, rm⟩, ⟨dp, rp⟩, hbufs, hBl, hlt, hnd⟩ := hR
    obtain ⟨db, rb⟩ := hbufs q hq
    have hqB : q < K.bufs.length := by rw [hBl]; exact hq
    have hbm : K.bufs.getD q 0 ∈ K.bufs := getD_mem hqB
    have lc := hlt K.c (by simp [RLay.ids])
    have lm := hlt K.mem (by simp [RLay.ids])
    have lp := hlt K.pr (by simp [RLay.ids])
    have lb := hlt (K.bufs.getD q 0) (by simp only [RLay.ids, List.mem_cons]; exact .inr (.inr (.inr hbm)))
    simp only [RLay.ids, List.nodup_cons, List.mem_cons, not_or] at hnd
    obtain ⟨⟨acm, acp, acb⟩, ⟨amp, amb⟩, apb, _⟩ := hnd
    have acb2 : K.c ≠ K.bufs.getD q 0 := fun h => acb (h ▸ hbm)
    have amb2 : K.mem ≠ K.bufs.getD q 0 := fun h => amb (h ▸ hbm)
    have apb2 : K.pr ≠ K.bufs.getD q 0 := fun h => apb (h ▸ hbm)
    have hall : ∀ j, j < s.cores.length → K.bufs.getD j 0 ≠ K.c ∧ K.bufs.getD j 0 ≠ K.mem ∧ K.bufs.getD j 0 ≠ K.pr ∧ 4 ≤ K.bufs.getD j 0 ∧ K.bufs.getD j 0 < n2 := by
      intro j hj
      have hm : K.bufs.getD j 0 ∈ K.bufs := getD_mem (by rw [hBl]; exact hj)
      have h9 := hlt (K.bufs.getD j 0) (by simp only [RLay.ids, List.mem_cons]; exact .inr (.inr (.inr hm)))
      exact ⟨fun h => acb (h ▸ hm), fun h => amb (h ▸ hm), fun h => apb (h ▸ hm), by omega, h9.2⟩
    have hml := mixed_len hBl
    clear hlt acb amb apb hbm
    repeat' (first
        | ((with_reducible refine Go.red ?_); conv => whnf)
        | (with_reducible refine Go.and ?_ ?_)
        | (with_reducible exact True.intro)
        | (with_reducible refine Go.far ?_)
        | ((with_reducible refine Apt.mk ?_); (try dsimp only); omega)
        | ((with_reducible refine Ask.mk ?_); first | exact aAsk | exact aAsk2)
        | ((with_reducible refine Go.ari64 ?_ ?_ ?_); (· exact aBnd); (· exact aBnd))
        | ((with_reducible refine Go.ariu8 ?_ ?_ ?_); (· exact aBnd); (· exact aBnd))
        | (with_reducible refine Go.ari0 ?_)
        | (apply Go.elem; (· (first | exact mixed_at hBl hq _ | exact aElem)))
        | (apply Go.row; (· exact aRow))
        | (apply Go.gives; (· exact aGives))
        | (apply Go.gives; (· exact st_core (by simp [CoreS.cells]) aOne))
        | (apply Go.gives; (· exact aRes))
        | (with_reducible refine Go.unroll ?_)
        | (refine Go.gt rfl ?_)
        | (refine Go.gf rfl ?_)
        | (with_reducible refine Go.join ?_)
        | (refine Go.lt' rfl ?_)
        | (refine Go.lf' rfl ?_)
        | ((with_reducible refine Go.bool ?_ ?_) <;> intro hc <;> (try simp only [List.length_map, ne_eq, hcs] at hc) <;> try (exfalso; omega))
        | ((with_reducible refine Res.eq ?_ ?_); (· exact aFit)))
    refine (fin_drain (q := q) (c := { s.core q with buf := t }) (mem := s.mem.set x.addr.toNat x.word) (pr := s.prints) (did := ⟨8, q, x.pc, x.addr, x.word, 0, false⟩) hBl aRow ?_ (fin_rows hbufs (fun j h1 h2 => ?_)) ⟨_, _, aRow, ?_⟩ (by simp) ⟨_, _, aRow, rfl⟩ rfl ?_).trans ?_
    · exact frz_tail (c := s.core q) aRow hb rfl
    · obtain ⟨g1, g2, g3, g4, g5⟩ := hall j h1; exact aSkip
    · rw [show ((s.core q).buf.getD (Int.toNat 0) default) = x from hx0, List.map_set]
    · rw [show ((s.core q).buf.getD (Int.toNat 0) default) = x from hx0]; rfl
    · rfl
end Go.Proofs.YtliabecchkolgaaGreat
