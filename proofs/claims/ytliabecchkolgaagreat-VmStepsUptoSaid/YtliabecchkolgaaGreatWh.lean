/- The document's machine runs: the other kinds. -/
import Derived.Test.YtliabecchkolgaaGreatWe
namespace Go.Proofs.YtliabecchkolgaaGreat
open Go Go.Abs Go.Proofs
set_option linter.unusedSimpArgs false
set_option linter.unusedVariables false
set_option maxHeartbeats 8000000 in
theorem rrun_hi {o : Obj} {s : Mach} (g : Good o s) (ok : ObjOk o) (hpl : (s.prints.length + 1) * 16 ≤ 140737488355328) (q : Nat) (hq : q < s.cores.length) (hkk : 5 ≤ ((o.cores.getD q default).code.getD (s.core q).pc.toNat default).kind ∧ ((o.cores.getD q default).code.getD (s.core q).pc.toNat default).kind ≤ 10) : Pure Tryz.prog 33 [stAv o s, i64 q] (fun r => r = outAv o (runS o s q)) := by
  refine Go.pure Tryz.func33 nm33 low33 res33 nt33 rfl ?_
  have hk : ¬ out s q := by unfold out; omega
  rw [runS, if_neg hk, Int.toNat_natCast]
  have hqo : q < o.cores.length := by rw [← g.n]; exact hq
  have hpc := g.pc q hq
  have hpc2 : (s.core q).pc.toNat < (o.core q).code.length := by omega
  have hpc3 : 0 ≤ (s.core q).pc := hpc.1
  have hcode := ok.code q hqo
  have hW := waits_pure g ok q hq
  repeat' (first
    | ((with_reducible refine Go.red ?_); conv => whnf)
    | (with_reducible refine Go.and ?_ ?_)
    | (with_reducible exact True.intro)
    | (with_reducible refine Go.far ?_)
    | ((with_reducible refine Apt.mk ?_); (try dsimp only); omega)
    | ((with_reducible refine Ask.mk ?_); first | exact aAsk | exact aAsk2)
    | ((with_reducible refine Go.ari64 ?_ ?_ ?_); (· exact aBnd); (· exact aBnd))
    | ((with_reducible refine Go.ariu8 ?_ ?_ ?_); (· exact aBnd); (· exact aBnd))
    | (with_reducible refine Go.ari0 ?_)
    | (apply Go.elem; (· (first | exact frozen_at hq _ | exact aElem)))
    | (apply Go.row; (· exact aRow))
    | (apply Go.gives; (· exact aGives))
    | (apply Go.gives; (· exact aRes))
    | (with_reducible refine Go.unroll ?_)
    | ((with_reducible refine Go.callW (hW) ?_ ?_); (· exact aFit))
    | ((with_reducible refine Go.callJ (fun _ => hW) ?_ ?_); (· exact aFit))
    | ((with_reducible refine Go.callE (hW) ?_ ?_); (· exact aFit))
    | ((with_reducible refine Go.callF (fun _ => hW) ?_ ?_); (· exact aFit))
    | (refine Go.gt rfl ?_)
    | (refine Go.gf rfl ?_)
    | (with_reducible refine Go.join ?_)
    | (refine Go.lt' rfl ?_)
    | (refine Go.lf' rfl ?_)
    | ((with_reducible refine Go.bool ?_ ?_) <;> intro hc <;> (try simp only [List.length_map, ne_eq, hcs] at hc) <;> try (exfalso; omega))
    | ((with_reducible refine Res.eq ?_ ?_); (· exact aFit)))
  · rw [if_pos hc]
    show AV.tup [AV.agg (List.map (Abs.frz _ 4) _), AV.agg (List.map (Abs.frz _ 4) _), _] = _
    rw [frz_same 4 (by simp [fitL, fitA, fitL_map]), frz_same 4 (by simp [fitL, fitA])]
    rfl
  · rw [if_neg (fun hx => Bool.noConfusion (hx.symm.trans (show (s.core q).halted = false by assumption))), if_pos hc]
    show AV.tup [AV.agg (List.map (Abs.frz _ 4) _), AV.agg (List.map (Abs.frz _ 4) _), _] = _
    rw [frz_same 4 (by simp [fitL, fitA, fitL_map]), frz_same 4 (by simp [fitL, fitA])]
    rfl
  rw [if_neg (fun hx => Bool.noConfusion (hx.symm.trans (show (s.core q).halted = false by assumption))), if_neg (fun hx => Bool.noConfusion (hx.symm.trans hc))]
  refine Go.callN (copy_call o (g.lookable ok (by omega)) (by omega)) ?_
  rintro _ H2 n2 ⟨K, rfl, hR, hn2, hf2⟩
  have hn3 : 4 ≤ n2 := Nat.le_trans aNx hn2
  have iok : ActOk (instrAt o s q) (o.core q).code.length o.mem.length := instrOk_act (ok.ok q hqo (s.core q).pc.toNat (by omega))
  have r0 : ∃ d e, getH H2 0 = some (.row 39 8 d [.agg e]) ∧ e.length = 8 := ⟨_, _, (hf2 0 aNx).trans aRow, rfl⟩
  obtain ⟨d0, e0, r0, he0⟩ := r0
  have r1 : ∃ d e, getH H2 1 = some (.row 39 8 d [.agg e]) ∧ e.length = 8 := ⟨_, _, (hf2 1 aNx).trans aRow, rfl⟩
  obtain ⟨d1, e1, r1, he1⟩ := r1
  have r2 : ∃ d e, getH H2 2 = some (.row 44 7 d [.agg e]) ∧ e.length = 7 := ⟨_, _, (hf2 2 aNx).trans aRow, rfl⟩
  obtain ⟨d2, e2, r2, he2⟩ := r2
  clear hf2
  obtain ⟨⟨dc, rc⟩, ⟨dm, rm⟩, ⟨dp, rp⟩, hbufs, hBl, hlt, hnd⟩ := hR
  obtain ⟨db, rb⟩ := hbufs q hq
  have hqB : q < K.bufs.length := by rw [hBl]; exact hq
  have hbm : K.bufs.getD q 0 ∈ K.bufs := getD_mem hqB
  have lc := hlt K.c (by simp [RLay.ids])
  have lm := hlt K.mem (by simp [RLay.ids])
  have lp := hlt K.pr (by simp [RLay.ids])
  have lb := hlt (K.bufs.getD q 0) (by simp only [RLay.ids, List.mem_cons]; exact .inr (.inr (.inr hbm)))
  have hnd2 := hnd
  simp only [RLay.ids, List.nodup_cons, List.mem_cons, not_or] at hnd2
  obtain ⟨⟨acm, acp, acb⟩, ⟨amp, amb⟩, apb, _⟩ := hnd2
  have acb2 : K.c ≠ K.bufs.getD q 0 := fun h => acb (h ▸ hbm)
  have amb2 : K.mem ≠ K.bufs.getD q 0 := fun h => amb (h ▸ hbm)
  have apb2 : K.pr ≠ K.bufs.getD q 0 := fun h => apb (h ▸ hbm)
  have hall : ∀ j, j < s.cores.length → K.bufs.getD j 0 ≠ K.c ∧ K.bufs.getD j 0 ≠ K.mem ∧ K.bufs.getD j 0 ≠ K.pr ∧ 4 ≤ K.bufs.getD j 0 ∧ K.bufs.getD j 0 < n2 := by
    intro j hj
    have hm : K.bufs.getD j 0 ∈ K.bufs := getD_mem (by rw [hBl]; exact hj)
    have h9 := hlt (K.bufs.getD j 0) (by simp only [RLay.ids, List.mem_cons]; exact .inr (.inr (.inr hm)))
    exact ⟨fun h => acb (h ▸ hm), fun h => amb (h ▸ hm), fun h => apb (h ▸ hm), by omega, h9.2⟩
  have hoth : ∀ j, j < s.cores.length → j ≠ q → K.bufs.getD j 0 ≠ K.bufs.getD q 0 := by
    intro j hj hne he
    have h9 : K.bufs.Nodup := by assumption
    have hjB : j < K.bufs.length := by rw [hBl]; exact hj
    rcases Nat.lt_or_gt_of_ne hne with h | h
    · exact List.pairwise_iff_getElem.1 h9 j q hjB hqB h (by simpa [List.getD, hjB, hqB] using he)
    · exact List.pairwise_iff_getElem.1 h9 q j hqB hjB h (by simpa [List.getD, hjB, hqB] using he.symm)
  have hml := mixed_len hBl
  have hk10 := kinds iok.kind
  clear hlt hnd acb amb apb hbm hW
  have id : 0 ≤ ((o.cores.getD ((q : Int).toNat) default).code.getD (s.core q).pc.toNat default).d ∧ ((o.cores.getD ((q : Int).toNat) default).code.getD (s.core q).pc.toNat default).d < 16 := iok.d
  have ia : 0 ≤ ((o.cores.getD ((q : Int).toNat) default).code.getD (s.core q).pc.toNat default).a ∧ ((o.cores.getD ((q : Int).toNat) default).code.getD (s.core q).pc.toNat default).a < 16 := iok.a
  have ib : 0 ≤ ((o.cores.getD ((q : Int).toNat) default).code.getD (s.core q).pc.toNat default).b ∧ ((o.cores.getD ((q : Int).toNat) default).code.getD (s.core q).pc.toNat default).b < 16 := iok.b
  have hbl : (s.core q).buf.length < 1000 := by have := g.buf q hq; have := ok.buffer; omega
  have had : ((o.cores.getD q default).code.getD (s.core q).pc.toNat default).kind = 3 ∨ ((o.cores.getD q default).code.getD (s.core q).pc.toNat default).kind = 4 ∨ ((o.cores.getD q default).code.getD (s.core q).pc.toNat default).kind = 5 → 0 ≤ ((o.cores.getD ((q : Int).toNat) default).code.getD (s.core q).pc.toNat default).addr ∧ ((o.cores.getD ((q : Int).toNat) default).code.getD (s.core q).pc.toNat default).addr < s.mem.length := by rw [g.mem]; exact iok.addr
  repeat' (first
      | ((with_reducible refine Go.red ?_); conv => whnf)
      | (with_reducible refine Go.and ?_ ?_)
      | (with_reducible exact True.intro)
      | (with_reducible refine Go.far ?_)
      | ((with_reducible refine Apt.mk ?_); (try dsimp only); omega)
      | ((with_reducible refine Ask.mk ?_); first | exact aAsk | exact aAsk2)
      | ((with_reducible refine Go.ari64 ?_ ?_ ?_); (· exact aBnd); (· exact aBnd))
      | ((with_reducible refine Go.ariu8 ?_ ?_ ?_); (· exact aBnd); (· exact aBnd))
      | (with_reducible refine Go.ari0 ?_)
      | (apply Go.elem; (· (first | exact mixed_at hBl hq _ | exact getD_av _ _ _ _ hpc2 | exact reg_at _ _ _ iok.d | exact reg_at _ _ _ iok.a | exact reg_at _ _ _ iok.b | exact pc_set _ _ _ _ | exact aElem)))
      | (apply Go.row; (· exact aRow))
      | (apply Go.gives; (· exact aGives))
      | (apply Go.gives; (· exact st_core (by simp [CoreS.cells]) aOne))
      | (apply Go.gives; (· exact aRes))
      | (with_reducible refine Go.unroll ?_)
      | ((with_reducible refine Go.callW (rtwo_pure _) ?_ ?_); (· exact aFit))
      | ((with_reducible refine Go.callJ (fun _ => rtwo_pure _) ?_ ?_); (· exact aFit))
      | ((with_reducible refine Go.callE (rtwo_pure _) ?_ ?_); (· exact aFit))
      | ((with_reducible refine Go.callF (fun _ => rtwo_pure _) ?_ ?_); (· exact aFit))
      | ((with_reducible refine Go.callW (rDo_two _ _ _ (by simp only [Int.toNat_natCast]; exact hc)) ?_ ?_); (· exact aFit))
      | ((with_reducible refine Go.callJ (fun _ => rDo_two _ _ _ (by simp only [Int.toNat_natCast]; exact hc)) ?_ ?_); (· exact aFit))
      | ((with_reducible refine Go.callE (rDo_two _ _ _ (by simp only [Int.toNat_natCast]; exact hc)) ?_ ?_); (· exact aFit))
      | ((with_reducible refine Go.callF (fun _ => rDo_two _ _ _ (by simp only [Int.toNat_natCast]; exact hc)) ?_ ?_); (· exact aFit))
      | ((with_reducible refine Go.callW (rOne_any _ _) ?_ ?_); (· exact aFit))
      | ((with_reducible refine Go.callJ (fun _ => rOne_any _ _) ?_ ?_); (· exact aFit))
      | ((with_reducible refine Go.callE (rOne_any _ _) ?_ ?_); (· exact aFit))
      | ((with_reducible refine Go.callF (fun _ => rOne_any _ _) ?_ ?_); (· exact aFit))
      | (refine Go.view (seen_pure o s (s.core q) _ (had (.inl hc)) hbl) ?_ ?_ ?_ ?_; (· exact seen_args hBl aRow aRow aRow (seen_rows hbufs hall (by intro b h1 h2 h3 h4 h5; exact aSkip)) aRow (frz_sc _ _ _)); (· simp [fitL, fitA, CoreS.cells, fitL_map]); (· exact flat2 _ _))
      | (refine Go.gt rfl ?_)
      | (refine Go.gf rfl ?_)
      | (with_reducible refine Go.join ?_)
      | (refine Go.lt' rfl ?_)
      | (refine Go.lf' rfl ?_)
      | ((with_reducible refine Go.bool ?_ ?_) <;> intro hc <;> (try simp only [List.length_map, ne_eq, hcs] at hc) <;> try (exfalso; omega))
      | ((with_reducible refine Res.eq ?_ ?_); (· exact aFit)))
  · refine out_act (fin_out (q := q) (c := CoreS.put { s.core q with pc := (s.core q).pc + 1 } (instrAt o s q).d (s.mem.getD (instrAt o s q).addr.toNat 0)) (b := K.bufs.getD q 0) (mem := s.mem.set (instrAt o s q).addr.toNat ((s.core q).reg (instrAt o s q).d.toNat)) (pr := s.prints) (did := ⟨4, q, (s.core q).pc, (instrAt o s q).addr, (s.mem.getD (instrAt o s q).addr.toNat 0), ((s.core q).reg (instrAt o s q).d.toNat), false⟩) hBl aRow (by rw [CoreS.av, ← put_cells2 _ _ _ _ _ iok.d]; rfl) ⟨_, _, aRow, rfl⟩ (fin_rows hbufs (fun j h1 h2 => ?_)) ⟨_, _, aRow, (by rw [List.map_set]; exact rfl)⟩ (by simp) ⟨_, _, aRow, rfl⟩ rfl rfl) ?_
    · obtain ⟨g1, g2, g3, g4, g5⟩ := hall j h1; have g6 := hoth j h1 h2; exact aSkip
    · rw [act5 (i := instrAt o s q) (by assumption), doSwap, inc_set, inc_core hq]; rfl
  · refine out_act (fin_out (q := q) (c := { s.core q with pc := (s.core q).pc + 1 }) (b := K.bufs.getD q 0) (mem := s.mem) (pr := s.prints) (did := ⟨5, q, (s.core q).pc, 0, 0, 0, false⟩) hBl aRow (by rw [CoreS.av]; rfl) ⟨_, _, aRow, rfl⟩ (fin_rows hbufs (fun j h1 h2 => ?_)) ⟨_, _, aRow, rfl⟩ rfl ⟨_, _, aRow, rfl⟩ rfl rfl) ?_
    · obtain ⟨g1, g2, g3, g4, g5⟩ := hall j h1; have g6 := hoth j h1 h2; exact aSkip
    · rw [act6 (i := instrAt o s q) (by assumption), doFence, inc_set, inc_core hq]; rfl
  · refine out_act (fin_out (q := q) (c := { s.core q with pc := (s.core q).pc + 1 }) (b := K.bufs.getD q 0) (mem := s.mem) (pr := s.prints ++ [PrintS.mk q ((s.core q).reg (instrAt o s q).a.toNat)]) (did := ⟨6, q, (s.core q).pc, 0, ((s.core q).reg (instrAt o s q).a.toNat), 0, false⟩) hBl aRow (by rw [CoreS.av]; rfl) ⟨_, _, aRow, rfl⟩ (fin_rows hbufs (fun j h1 h2 => ?_)) ⟨_, _, aRow, rfl⟩ rfl ⟨_, _, aRow, (by rw [List.map_append]; rfl)⟩ (by simp) rfl) ?_
    · obtain ⟨g1, g2, g3, g4, g5⟩ := hall j h1; have g6 := hoth j h1 h2; exact aSkip
    · rw [act7 (i := instrAt o s q) (by assumption), doPrint, inc_set, inc_core hq]; rfl
  · refine out_act (fin_out (q := q) (c := { s.core q with pc := (instrAt o s q).to }) (b := K.bufs.getD q 0) (mem := s.mem) (pr := s.prints) (did := ⟨1, q, (s.core q).pc, 0, 0, 0, false⟩) hBl aRow (by rw [CoreS.av]; rfl) ⟨_, _, aRow, rfl⟩ (fin_rows hbufs (fun j h1 h2 => ?_)) ⟨_, _, aRow, rfl⟩ rfl ⟨_, _, aRow, rfl⟩ rfl rfl) ?_
    · obtain ⟨g1, g2, g3, g4, g5⟩ := hall j h1; have g6 := hoth j h1 h2; exact aSkip
    · rw [act8 (i := instrAt o s q) (by assumption), doJump, inc_set, inc_core hq]; rfl
  · refine out_act (fin_out (q := q) (c := { s.core q with pc := (instrAt o s q).to }) (b := K.bufs.getD q 0) (mem := s.mem) (pr := s.prints) (did := ⟨1, q, (s.core q).pc, 0, 0, 0, false⟩) hBl aRow (by rw [CoreS.av]; rfl) ⟨_, _, aRow, rfl⟩ (fin_rows hbufs (fun j h1 h2 => ?_)) ⟨_, _, aRow, rfl⟩ rfl ⟨_, _, aRow, rfl⟩ rfl rfl) ?_
    · obtain ⟨g1, g2, g3, g4, g5⟩ := hall j h1; have g6 := hoth j h1 h2; exact aSkip
    · rw [act9 (i := instrAt o s q) (by assumption), doZero, inc_core hq, if_pos (by assumption), inc_set]; rfl
  · refine out_act (fin_out (q := q) (c := { s.core q with pc := (s.core q).pc + 1 }) (b := K.bufs.getD q 0) (mem := s.mem) (pr := s.prints) (did := ⟨1, q, (s.core q).pc, 0, 0, 0, false⟩) hBl aRow (by rw [CoreS.av]; rfl) ⟨_, _, aRow, rfl⟩ (fin_rows hbufs (fun j h1 h2 => ?_)) ⟨_, _, aRow, rfl⟩ rfl ⟨_, _, aRow, rfl⟩ rfl rfl) ?_
    · obtain ⟨g1, g2, g3, g4, g5⟩ := hall j h1; have g6 := hoth j h1 h2; exact aSkip
    · rw [act9 (i := instrAt o s q) (by assumption), doZero, inc_core hq, if_neg (by assumption), inc_set]; rfl
  · refine out_act (fin_out (q := q) (c := { s.core q with halted := true }) (b := K.bufs.getD q 0) (mem := s.mem) (pr := s.prints) (did := ⟨7, q, (s.core q).pc, 0, 0, 0, false⟩) hBl aRow (by rw [CoreS.av]; rfl) ⟨_, _, aRow, rfl⟩ (fin_rows hbufs (fun j h1 h2 => ?_)) ⟨_, _, aRow, rfl⟩ rfl ⟨_, _, aRow, rfl⟩ rfl rfl) ?_
    · obtain ⟨g1, g2, g3, g4, g5⟩ := hall j h1; have g6 := hoth j h1 h2; exact aSkip
    · rw [act10 (i := instrAt o s q) (by assumption), doHalt, inc_set, inc_core hq]; rfl
end Go.Proofs.YtliabecchkolgaaGreat
