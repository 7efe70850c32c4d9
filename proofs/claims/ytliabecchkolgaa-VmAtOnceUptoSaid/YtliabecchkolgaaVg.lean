/- What a turn does: the longer ones. -/
import Derived.Test.YtliabecchkolgaaVf
namespace Go.Proofs.Ytliabecchkolgaa
open Go Go.Abs Go.Proofs
set_option linter.unusedSimpArgs false
set_option linter.unusedVariables false
def doPrint (s : Mach) (q : Nat) (i : Instr) (did : DidS) : Mach × DidS := ({ s.setCore q (s.core q) with prints := s.prints ++ [PrintS.mk did.core ((s.core q).reg i.a.toNat)] }, { did with kind := 6, word := (s.core q).reg i.a.toNat })
set_option maxHeartbeats 4000000 in
theorem print_call {o : Obj} {s : Mach} {L : Lay} {H : Hp} {nx : Nat} (h : MAt o s L H nx) {q : Nat} (hq : q < s.cores.length) {d : Nat} {did : DidS} (hd : DidAt L H nx d did) (i : Instr) (hA : 0 ≤ i.a ∧ i.a < 16) (hpl : (s.prints.length + 1) * 16 ≤ 140737488355328) :
    CallN Try.prog 57 [turnAv s L q d i] H nx (Turned o L H nx d (doPrint s q i did).1 (doPrint s q i did).2) := by
  refine Go.fn Try.func57 nm57 low57 res57 nt57 rfl ?_
  obtain ⟨dm, hm⟩ := h.m
  obtain ⟨dc, hc⟩ := h.c
  obtain ⟨dmem, hmem⟩ := h.mem
  obtain ⟨dpr, hpr⟩ := h.pr
  obtain ⟨db, hb⟩ := h.bufs q hq
  obtain ⟨dd, hdr⟩ := hd.row
  obtain ⟨a1, a2, a3, a4, a5, a6, a7, a8, a9, a10⟩ := h.apart hq
  obtain ⟨l1, l2, l3, l4, l5⟩ := h.lts hq
  obtain ⟨d1, d2, d3, d4, d5⟩ := Lay.out hd.out (q := q) (by rw [h.lens]; exact hq)
  have hdl := hd.lt
  have hel := rows_len h
  have hei := rows_at h hq
  rw [didRow] at hdr
  repeat' (first
    | ((with_reducible refine Go.red ?_); conv => whnf)
    | (with_reducible refine Go.and ?_ ?_)
    | (with_reducible exact True.intro)
    | (with_reducible refine Go.far ?_)
    | ((with_reducible refine Apt.mk ?_); (try dsimp only); omega)
    | ((with_reducible refine Ask.mk ?_); first | exact aAsk | exact aAsk2)
    | ((with_reducible refine Go.ari64 ?_ ?_ ?_); (· exact aBnd); (· exact aBnd))
    | ((with_reducible refine Go.ariu8 ?_ ?_ ?_); (· exact aBnd); (· exact aBnd))
    | (with_reducible refine Go.ari0 ?_)
    | (apply Go.elem; (· (first | exact hei _ | exact reg_at _ _ _ hA | exact aElem)))
    | (apply Go.row; (· exact aRow))
    | (apply Go.gives; (· exact aGives))
    | (apply Go.gives; (· exact aRes))
    | (with_reducible refine Go.unroll ?_)
    | (refine Go.gt rfl ?_)
    | (refine Go.gf rfl ?_)
    | (with_reducible refine Go.join ?_)
    | (refine Go.lt' rfl ?_)
    | (refine Go.lf' rfl ?_)
    | ((with_reducible refine Go.bool ?_ ?_) <;> intro hc <;> (try simp only [List.length_map, ne_eq, hcs] at hc) <;> try (exfalso; omega))
    | ((with_reducible refine Res.eq ?_ ?_); (· exact aFit)))
  refine ⟨⟨(by first | omega | (simp only [List.length_cons, List.length_nil]; omega)), ⟨_, h.next (q := q) hq (s.core q) (L.bufs.getD q 0) (s.mem) (s.prints ++ [PrintS.mk did.core ((s.core q).reg i.a.toNat)]) (by first | omega | (simp only [List.length_cons, List.length_nil]; omega)) (by first | exact .inl rfl | (right; omega)) ⟨_, _, aRow, (by simp)⟩ ⟨_, _, aRow, (rows_same h hq).symm⟩ ⟨_, _, aRow, rfl⟩ ⟨_, _, aRow, (by rw [List.map_append]; rfl)⟩ ⟨_, _, aRow, rfl⟩ (by intro j hj hne hlt n1 n2 n3 n4 n5; have x5 := (Lay.out hd.out (q := j) (by rw [h.lens]; exact hj)).2.2.2.2; repeat (first | exact rfl | (exact hfr _ (by omega) (by omega)) | (refine Eq.trans (getH_skipEq (by first | omega | (simp only [List.length_cons, List.length_nil]; omega))) ?_)))⟩, ⟨_, aRow⟩, (by intro b' hb' hout hne; obtain ⟨o1, o2, o3, o4, o5⟩ := Lay.out hout (q := q) (by rw [h.lens]; exact hq); repeat (first | exact rfl | (exact hfr _ (by omega) (by omega)) | (refine Eq.trans (getH_skipEq (by first | omega | (simp only [List.length_cons, List.length_nil]; omega))) ?_)))⟩⟩
def doStore (s : Mach) (q : Nat) (i : Instr) (did : DidS) : Mach × DidS := (s.setCore q { s.core q with buf := (s.core q).buf ++ [StoreS.mk did.pc i.addr ((s.core q).reg i.a.toNat)] }, { did with kind := 3, addr := i.addr, word := (s.core q).reg i.a.toNat })
set_option maxHeartbeats 4000000 in
theorem store_call {o : Obj} {s : Mach} {L : Lay} {H : Hp} {nx : Nat} (h : MAt o s L H nx) {q : Nat} (hq : q < s.cores.length) {d : Nat} {did : DidS} (hd : DidAt L H nx d did) (i : Instr) (hA : 0 ≤ i.a ∧ i.a < 16) (hbl : (s.cores.getD q default).buf.length < 1000) :
    CallN Try.prog 54 [turnAv s L q d i] H nx (Turned o L H nx d (doStore s q i did).1 (doStore s q i did).2) := by
  refine Go.fn Try.func54 nm54 low54 res54 nt54 rfl ?_
  obtain ⟨dm, hm⟩ := h.m
  obtain ⟨dc, hc⟩ := h.c
  obtain ⟨dmem, hmem⟩ := h.mem
  obtain ⟨dpr, hpr⟩ := h.pr
  obtain ⟨db, hb⟩ := h.bufs q hq
  obtain ⟨dd, hdr⟩ := hd.row
  obtain ⟨a1, a2, a3, a4, a5, a6, a7, a8, a9, a10⟩ := h.apart hq
  obtain ⟨l1, l2, l3, l4, l5⟩ := h.lts hq
  obtain ⟨d1, d2, d3, d4, d5⟩ := Lay.out hd.out (q := q) (by rw [h.lens]; exact hq)
  have hdl := hd.lt
  have hel := rows_len h
  have hei := rows_at h hq
  rw [didRow] at hdr
  repeat' (first
    | ((with_reducible refine Go.red ?_); conv => whnf)
    | (with_reducible refine Go.and ?_ ?_)
    | (with_reducible exact True.intro)
    | (with_reducible refine Go.far ?_)
    | ((with_reducible refine Apt.mk ?_); (try dsimp only); omega)
    | ((with_reducible refine Ask.mk ?_); first | exact aAsk | exact aAsk2)
    | ((with_reducible refine Go.ari64 ?_ ?_ ?_); (· exact aBnd); (· exact aBnd))
    | ((with_reducible refine Go.ariu8 ?_ ?_ ?_); (· exact aBnd); (· exact aBnd))
    | (with_reducible refine Go.ari0 ?_)
    | (apply Go.elem; (· (first | exact hei _ | exact reg_at _ _ _ hA | exact aElem)))
    | (apply Go.row; (· exact aRow))
    | (apply Go.gives; (· exact aGives))
    | (apply Go.gives; (· exact aRes))
    | (with_reducible refine Go.unroll ?_)
    | (refine Go.gt rfl ?_)
    | (refine Go.gf rfl ?_)
    | (with_reducible refine Go.join ?_)
    | (refine Go.lt' rfl ?_)
    | (refine Go.lf' rfl ?_)
    | ((with_reducible refine Go.bool ?_ ?_) <;> intro hc <;> (try simp only [List.length_map, ne_eq, hcs] at hc) <;> try (exfalso; omega))
    | ((with_reducible refine Res.eq ?_ ?_); (· exact aFit)))
  refine ⟨⟨(by first | omega | (simp only [List.length_cons, List.length_nil]; omega)), ⟨_, h.next (q := q) hq ({ s.core q with buf := (s.core q).buf ++ [StoreS.mk did.pc i.addr ((s.core q).reg i.a.toNat)] }) (L.bufs.getD q 0) (s.mem) (s.prints) (by first | omega | (simp only [List.length_cons, List.length_nil]; omega)) (by first | exact .inl rfl | (right; omega)) ⟨_, _, aRow, rfl⟩ ⟨_, _, aRow, (by simp only [CoreS.av, List.length_append]; rfl)⟩ ⟨_, _, aRow, rfl⟩ ⟨_, _, aRow, rfl⟩ ⟨_, _, aRow, (by rw [List.map_append]; rfl)⟩ (by intro j hj hne hlt n1 n2 n3 n4 n5; have x5 := (Lay.out hd.out (q := j) (by rw [h.lens]; exact hj)).2.2.2.2; repeat (first | exact rfl | (exact hfr _ (by omega) (by omega)) | (refine Eq.trans (getH_skipEq (by first | omega | (simp only [List.length_cons, List.length_nil]; omega))) ?_)))⟩, ⟨_, aRow⟩, (by intro b' hb' hout hne; obtain ⟨o1, o2, o3, o4, o5⟩ := Lay.out hout (q := q) (by rw [h.lens]; exact hq); repeat (first | exact rfl | (exact hfr _ (by omega) (by omega)) | (refine Eq.trans (getH_skipEq (by first | omega | (simp only [List.length_cons, List.length_nil]; omega))) ?_)))⟩⟩
def doSwap (s : Mach) (q : Nat) (i : Instr) (did : DidS) : Mach × DidS := ({ s.setCore q ((s.core q).put i.d (s.mem.getD i.addr.toNat 0)) with mem := s.mem.set i.addr.toNat ((s.core q).reg i.d.toNat) }, { did with kind := 4, addr := i.addr, word := s.mem.getD i.addr.toNat 0, put := (s.core q).reg i.d.toNat })
set_option maxHeartbeats 4000000 in
theorem swap_call {o : Obj} {s : Mach} {L : Lay} {H : Hp} {nx : Nat} (h : MAt o s L H nx) {q : Nat} (hq : q < s.cores.length) {d : Nat} {did : DidS} (hd : DidAt L H nx d did) (i : Instr) (hD : 0 ≤ i.d ∧ i.d < 16) (hM : 0 ≤ i.addr ∧ i.addr < s.mem.length) :
    CallN Try.prog 55 [turnAv s L q d i] H nx (Turned o L H nx d (doSwap s q i did).1 (doSwap s q i did).2) := by
  refine Go.fn Try.func55 nm55 low55 res55 nt55 rfl ?_
  obtain ⟨dm, hm⟩ := h.m
  obtain ⟨dc, hc⟩ := h.c
  obtain ⟨dmem, hmem⟩ := h.mem
  obtain ⟨dpr, hpr⟩ := h.pr
  obtain ⟨db, hb⟩ := h.bufs q hq
  obtain ⟨dd, hdr⟩ := hd.row
  obtain ⟨a1, a2, a3, a4, a5, a6, a7, a8, a9, a10⟩ := h.apart hq
  obtain ⟨l1, l2, l3, l4, l5⟩ := h.lts hq
  obtain ⟨d1, d2, d3, d4, d5⟩ := Lay.out hd.out (q := q) (by rw [h.lens]; exact hq)
  have hdl := hd.lt
  have hel := rows_len h
  have hei := rows_at h hq
  rw [didRow] at hdr
  repeat' (first
    | ((with_reducible refine Go.red ?_); conv => whnf)
    | (with_reducible refine Go.and ?_ ?_)
    | (with_reducible exact True.intro)
    | (with_reducible refine Go.far ?_)
    | ((with_reducible refine Apt.mk ?_); (try dsimp only); omega)
    | ((with_reducible refine Ask.mk ?_); first | exact aAsk | exact aAsk2)
    | ((with_reducible refine Go.ari64 ?_ ?_ ?_); (· exact aBnd); (· exact aBnd))
    | ((with_reducible refine Go.ariu8 ?_ ?_ ?_); (· exact aBnd); (· exact aBnd))
    | (with_reducible refine Go.ari0 ?_)
    | (apply Go.elem; (· (first | exact hei _ | exact reg_at _ _ _ hD | exact aElem)))
    | (apply Go.row; (· exact aRow))
    | (apply Go.gives; (· exact aGives))
    | (apply Go.gives; (· exact aRes))
    | (with_reducible refine Go.unroll ?_)
    | (refine Go.gt rfl ?_)
    | (refine Go.gf rfl ?_)
    | (with_reducible refine Go.join ?_)
    | (refine Go.lt' rfl ?_)
    | (refine Go.lf' rfl ?_)
    | ((with_reducible refine Go.bool ?_ ?_) <;> intro hc <;> (try simp only [List.length_map, ne_eq, hcs] at hc) <;> try (exfalso; omega))
    | ((with_reducible refine Res.eq ?_ ?_); (· exact aFit)))
  refine ⟨⟨(by first | omega | (simp only [List.length_cons, List.length_nil]; omega)), ⟨_, h.next (q := q) hq ((s.core q).put i.d (s.mem.getD i.addr.toNat 0)) (L.bufs.getD q 0) (s.mem.set i.addr.toNat ((s.core q).reg i.d.toNat)) (s.prints) (by first | omega | (simp only [List.length_cons, List.length_nil]; omega)) (by first | exact .inl rfl | (right; omega)) ⟨_, _, aRow, (by simp)⟩ ⟨_, _, aRow, (by rw [CoreS.av, ← put_cells _ _ _ _ hD]; rfl)⟩ ⟨_, _, aRow, (by simp [List.map_set])⟩ ⟨_, _, aRow, rfl⟩ ⟨_, _, aRow, rfl⟩ (by intro j hj hne hlt n1 n2 n3 n4 n5; have x5 := (Lay.out hd.out (q := j) (by rw [h.lens]; exact hj)).2.2.2.2; repeat (first | exact rfl | (exact hfr _ (by omega) (by omega)) | (refine Eq.trans (getH_skipEq (by first | omega | (simp only [List.length_cons, List.length_nil]; omega))) ?_)))⟩, ⟨_, aRow⟩, (by intro b' hb' hout hne; obtain ⟨o1, o2, o3, o4, o5⟩ := Lay.out hout (q := q) (by rw [h.lens]; exact hq); repeat (first | exact rfl | (exact hfr _ (by omega) (by omega)) | (refine Eq.trans (getH_skipEq (by first | omega | (simp only [List.length_cons, List.length_nil]; omega))) ?_)))⟩⟩
end Go.Proofs.Ytliabecchkolgaa
