/- What a turn does. -/
import Derived.Test.YtliabecchkolgaaVe
namespace Go.Proofs.Ytliabecchkolgaa
open Go Go.Abs Go.Proofs
set_option linter.unusedSimpArgs false
set_option linter.unusedVariables false
theorem set_set {α : Type} (l : List α) (i : Nat) (v w : α) : (l.set i v).set i w = l.set i w := by simp
theorem reg_at (c : CoreS) (v : AV) (k : Int) (h : 0 ≤ k ∧ k < 16) : (c.cells v).getD (2 + k.toNat * 1) .any = i64 (c.reg k.toNat) := by
  have h2 : k.toNat = 0 ∨ k.toNat = 1 ∨ k.toNat = 2 ∨ k.toNat = 3 ∨ k.toNat = 4 ∨ k.toNat = 5 ∨ k.toNat = 6 ∨ k.toNat = 7 ∨ k.toNat = 8 ∨ k.toNat = 9 ∨ k.toNat = 10 ∨ k.toNat = 11 ∨ k.toNat = 12 ∨ k.toNat = 13 ∨ k.toNat = 14 ∨ k.toNat = 15 := by omega
  generalize k.toNat = j at h2 ⊢
  rcases h2 with rfl | rfl | rfl | rfl | rfl | rfl | rfl | rfl | rfl | rfl | rfl | rfl | rfl | rfl | rfl | rfl <;> rfl
theorem put_cells (c : CoreS) (v : AV) (k : Int) (w : Int) (h : 0 ≤ k ∧ k < 16) : (c.cells v).set (2 + k.toNat * 1) (i64 w) = (c.put k w).cells v := by
  have h2 : k.toNat = 0 ∨ k.toNat = 1 ∨ k.toNat = 2 ∨ k.toNat = 3 ∨ k.toNat = 4 ∨ k.toNat = 5 ∨ k.toNat = 6 ∨ k.toNat = 7 ∨ k.toNat = 8 ∨ k.toNat = 9 ∨ k.toNat = 10 ∨ k.toNat = 11 ∨ k.toNat = 12 ∨ k.toNat = 13 ∨ k.toNat = 14 ∨ k.toNat = 15 := by omega
  simp only [CoreS.cells, CoreS.put, setReg]
  generalize k.toNat = j at h2 ⊢
  rcases h2 with rfl | rfl | rfl | rfl | rfl | rfl | rfl | rfl | rfl | rfl | rfl | rfl | rfl | rfl | rfl | rfl <;> rfl
abbrev didRow (d : DidS) (df : AV) : Blk := .row 33 7 df [d.av]
abbrev turnAv (s : Mach) (L : Lay) (q d : Nat) (i : Instr) : AV := .agg [.pt L.m 1 0 0, .pt L.c s.cores.length q 0, u8 i.kind, u8 i.op, i64 i.d, i64 i.a, i64 i.b, i64 i.addr, i64 i.to, i64 i.word, i64 i.fr, .pt d 1 0 0]
abbrev Mach.core (s : Mach) (q : Nat) : CoreS := s.cores.getD q default
def Mach.setCore (s : Mach) (q : Nat) (c : CoreS) : Mach := { s with cores := s.cores.set q c }
/-- How a turn leaves the machine. -/
def Turned (o : Obj) (L : Lay) (H : Hp) (nx d : Nat) (s : Mach) (did : DidS) : AV → Hp → Nat → Prop := fun _ H' n =>
  nx ≤ n ∧ (∃ L', MAt o s L' H' n ∧ Moves L L' nx) ∧ (∃ df, getH H' d = some (didRow did df)) ∧ ∀ b, b < nx → b ∉ L.ids → b ≠ d → getH H' b = getH H b
structure DidAt (L : Lay) (H : Hp) (nx d : Nat) (did : DidS) : Prop where
  lt : d < nx
  out : d ∉ L.ids
  row : ∃ df, getH H d = some (didRow did df)
theorem Lay.out {L : Lay} {b : Nat} (h : b ∉ L.ids) {q : Nat} (hq : q < L.bufs.length) : b ≠ L.m ∧ b ≠ L.c ∧ b ≠ L.mem ∧ b ≠ L.pr ∧ b ≠ L.bufs.getD q 0 := by
  simp only [Lay.ids, List.mem_cons, not_or] at h
  exact ⟨h.1, h.2.1, h.2.2.1, h.2.2.2.1, fun he => h.2.2.2.2 (he ▸ Lay.mem_buf hq)⟩
def doSet (s : Mach) (q : Nat) (i : Instr) (did : DidS) : Mach × DidS := (s.setCore q ((s.core q).put i.d i.word), { did with kind := 1 })
theorem set_call {o : Obj} {s : Mach} {L : Lay} {H : Hp} {nx : Nat} (h : MAt o s L H nx) {q : Nat} (hq : q < s.cores.length) {d : Nat} {did : DidS} (hd : DidAt L H nx d did) (i : Instr) (hD : 0 ≤ i.d ∧ i.d < 16) :
    CallN Try.prog 51 [turnAv s L q d i] H nx (Turned o L H nx d (doSet s q i did).1 (doSet s q i did).2) := by
  refine Go.fn Try.func51 nm51 low51 res51 nt51 rfl ?_
  obtain ⟨dm, hm⟩ := h.m
  obtain ⟨dc, hc⟩ := h.c
  obtain ⟨dmem, hmem⟩ := h.mem
  obtain ⟨dpr, hpr⟩ := h.pr
  obtain ⟨db, hb⟩ := h.bufs q hq
  obtain ⟨dd, hdr⟩ := hd.row
  obtain ⟨a1, a2, a3, a4, a5, a6, a7, a8, a9, a10⟩ := h.apart hq
  obtain ⟨l1, l2, l3, l4, l5⟩ := h.lts hq
  obtain ⟨d1, d2, d3, d4, d5⟩ := Lay.out hd.out (q := q) (by rw [h.lens]; exact hq)
  have hdl := hd.lt
  have hel := rows_len h
  have hei := rows_at h hq
  rw [didRow] at hdr
  repeat' (first
    | ((with_reducible refine Go.red ?_); conv => whnf)
    | (with_reducible refine Go.and ?_ ?_)
    | (with_reducible exact True.intro)
    | (with_reducible refine Go.far ?_)
    | ((with_reducible refine Apt.mk ?_); (try dsimp only); omega)
    | ((with_reducible refine Ask.mk ?_); first | exact aAsk | exact aAsk2)
    | ((with_reducible refine Go.ari64 ?_ ?_ ?_); (· exact aBnd); (· exact aBnd))
    | ((with_reducible refine Go.ariu8 ?_ ?_ ?_); (· exact aBnd); (· exact aBnd))
    | (with_reducible refine Go.ari0 ?_)
    | (apply Go.elem; (· (first | exact hei _ | exact reg_at _ _ _ hD | exact aElem)))
    | (apply Go.row; (· exact aRow))
    | (apply Go.gives; (· exact aGives))
    | (apply Go.gives; (· exact aRes))
    | (with_reducible refine Go.unroll ?_)
    | (refine Go.gt rfl ?_)
    | (refine Go.gf rfl ?_)
    | (with_reducible refine Go.join ?_)
    | (refine Go.lt' rfl ?_)
    | (refine Go.lf' rfl ?_)
    | ((with_reducible refine Go.bool ?_ ?_) <;> intro hc <;> (try simp only [List.length_map, ne_eq, hcs] at hc) <;> try (exfalso; omega))
    | ((with_reducible refine Res.eq ?_ ?_); (· exact aFit)))
  refine ⟨⟨(by first | omega | (simp only [List.length_cons, List.length_nil]; omega)), ⟨_, h.next (q := q) hq ((s.core q).put i.d i.word) (L.bufs.getD q 0) (s.mem) (s.prints) (by first | omega | (simp only [List.length_cons, List.length_nil]; omega)) (by first | exact .inl rfl | (right; omega)) ⟨_, _, aRow, rfl⟩ ⟨_, _, aRow, (by rw [CoreS.av, ← put_cells _ _ _ _ hD]; rfl)⟩ ⟨_, _, aRow, rfl⟩ ⟨_, _, aRow, rfl⟩ ⟨_, _, aRow, rfl⟩ (by intro j hj hne hlt n1 n2 n3 n4 n5; have x5 := (Lay.out hd.out (q := j) (by rw [h.lens]; exact hj)).2.2.2.2; repeat (first | exact rfl | (exact hfr _ (by omega) (by omega)) | (refine Eq.trans (getH_skipEq (by first | omega | (simp only [List.length_cons, List.length_nil]; omega))) ?_)))⟩, ⟨_, aRow⟩, (by intro b' hb' hout hne; obtain ⟨o1, o2, o3, o4, o5⟩ := Lay.out hout (q := q) (by rw [h.lens]; exact hq); repeat (first | exact rfl | (exact hfr _ (by omega) (by omega)) | (refine Eq.trans (getH_skipEq (by first | omega | (simp only [List.length_cons, List.length_nil]; omega))) ?_)))⟩⟩
def opW (op a b : Int) : Int := if two op = true then twoW op a b else oneW op a
def doOp (s : Mach) (q : Nat) (i : Instr) (did : DidS) : Mach × DidS := (s.setCore q ((s.core q).put i.d (opW i.op ((s.core q).reg i.a.toNat) ((s.core q).reg i.b.toNat))), { did with kind := 1 })
theorem op_two {o : Obj} {s : Mach} {L : Lay} {H : Hp} {nx : Nat} (h : MAt o s L H nx) {q : Nat} (hq : q < s.cores.length) {d : Nat} {did : DidS} (hd : DidAt L H nx d did) (i : Instr) (hD : 0 ≤ i.d ∧ i.d < 16) (hA : 0 ≤ i.a ∧ i.a < 16) (hB : 0 ≤ i.b ∧ i.b < 16) (ht : two i.op = true) :
    CallN Try.prog 52 [turnAv s L q d i] H nx (Turned o L H nx d (doOp s q i did).1 (doOp s q i did).2) := by
  refine Go.fn Try.func52 nm52 low52 res52 nt52 rfl ?_
  obtain ⟨dm, hm⟩ := h.m
  obtain ⟨dc, hc⟩ := h.c
  obtain ⟨dmem, hmem⟩ := h.mem
  obtain ⟨dpr, hpr⟩ := h.pr
  obtain ⟨db, hb⟩ := h.bufs q hq
  obtain ⟨dd, hdr⟩ := hd.row
  obtain ⟨a1, a2, a3, a4, a5, a6, a7, a8, a9, a10⟩ := h.apart hq
  obtain ⟨l1, l2, l3, l4, l5⟩ := h.lts hq
  obtain ⟨d1, d2, d3, d4, d5⟩ := Lay.out hd.out (q := q) (by rw [h.lens]; exact hq)
  have hdl := hd.lt
  have hel := rows_len h
  have hei := rows_at h hq
  rw [didRow] at hdr
  repeat' (first
    | ((with_reducible refine Go.red ?_); conv => whnf)
    | (with_reducible refine Go.and ?_ ?_)
    | (with_reducible exact True.intro)
    | (with_reducible refine Go.far ?_)
    | ((with_reducible refine Apt.mk ?_); (try dsimp only); omega)
    | ((with_reducible refine Ask.mk ?_); first | exact aAsk | exact aAsk2)
    | ((with_reducible refine Go.ari64 ?_ ?_ ?_); (· exact aBnd); (· exact aBnd))
    | ((with_reducible refine Go.ariu8 ?_ ?_ ?_); (· exact aBnd); (· exact aBnd))
    | (with_reducible refine Go.ari0 ?_)
    | (apply Go.elem; (· (first | exact hei _ | exact reg_at _ _ _ hD | exact reg_at _ _ _ hA | exact reg_at _ _ _ hB | exact aElem)))
    | (apply Go.row; (· exact aRow))
    | (apply Go.gives; (· exact aGives))
    | (apply Go.gives; (· exact aRes))
    | (with_reducible refine Go.unroll ?_)
    | ((with_reducible refine Go.callW (Do_two _ _ _ ht) ?_ ?_); (· exact aFit))
    | ((with_reducible refine Go.callJ (fun _ => Do_two _ _ _ ht) ?_ ?_); (· exact aFit))
    | ((with_reducible refine Go.callE (Do_two _ _ _ ht) ?_ ?_); (· exact aFit))
    | ((with_reducible refine Go.callF (fun _ => Do_two _ _ _ ht) ?_ ?_); (· exact aFit))
    | (refine Go.gt rfl ?_)
    | (refine Go.gf rfl ?_)
    | (with_reducible refine Go.join ?_)
    | (refine Go.lt' rfl ?_)
    | (refine Go.lf' rfl ?_)
    | ((with_reducible refine Go.bool ?_ ?_) <;> intro hc <;> (try simp only [List.length_map, ne_eq, hcs] at hc) <;> try (exfalso; omega))
    | ((with_reducible refine Res.eq ?_ ?_); (· exact aFit)))
  refine ⟨⟨(by first | omega | (simp only [List.length_cons, List.length_nil]; omega)), ⟨_, h.next (q := q) hq ((s.core q).put i.d (opW i.op ((s.core q).reg i.a.toNat) ((s.core q).reg i.b.toNat))) (L.bufs.getD q 0) (s.mem) (s.prints) (by first | omega | (simp only [List.length_cons, List.length_nil]; omega)) (by first | exact .inl rfl | (right; omega)) ⟨_, _, aRow, rfl⟩ ⟨_, _, aRow, (by rw [opW, if_pos ht, CoreS.av, ← put_cells _ _ _ _ hD]; rfl)⟩ ⟨_, _, aRow, rfl⟩ ⟨_, _, aRow, rfl⟩ ⟨_, _, aRow, rfl⟩ (by intro j hj hne hlt n1 n2 n3 n4 n5; have x5 := (Lay.out hd.out (q := j) (by rw [h.lens]; exact hj)).2.2.2.2; repeat (first | exact rfl | (exact hfr _ (by omega) (by omega)) | (refine Eq.trans (getH_skipEq (by first | omega | (simp only [List.length_cons, List.length_nil]; omega))) ?_)))⟩, ⟨_, aRow⟩, (by intro b' hb' hout hne; obtain ⟨o1, o2, o3, o4, o5⟩ := Lay.out hout (q := q) (by rw [h.lens]; exact hq); repeat (first | exact rfl | (exact hfr _ (by omega) (by omega)) | (refine Eq.trans (getH_skipEq (by first | omega | (simp only [List.length_cons, List.length_nil]; omega))) ?_)))⟩⟩
theorem op_one {o : Obj} {s : Mach} {L : Lay} {H : Hp} {nx : Nat} (h : MAt o s L H nx) {q : Nat} (hq : q < s.cores.length) {d : Nat} {did : DidS} (hd : DidAt L H nx d did) (i : Instr) (hD : 0 ≤ i.d ∧ i.d < 16) (hA : 0 ≤ i.a ∧ i.a < 16) (hB : 0 ≤ i.b ∧ i.b < 16) (ht : two i.op = false) (ho : i.op = 17 ∨ i.op = 18) :
    CallN Try.prog 52 [turnAv s L q d i] H nx (Turned o L H nx d (doOp s q i did).1 (doOp s q i did).2) := by
  refine Go.fn Try.func52 nm52 low52 res52 nt52 rfl ?_
  obtain ⟨dm, hm⟩ := h.m
  obtain ⟨dc, hc⟩ := h.c
  obtain ⟨dmem, hmem⟩ := h.mem
  obtain ⟨dpr, hpr⟩ := h.pr
  obtain ⟨db, hb⟩ := h.bufs q hq
  obtain ⟨dd, hdr⟩ := hd.row
  obtain ⟨a1, a2, a3, a4, a5, a6, a7, a8, a9, a10⟩ := h.apart hq
  obtain ⟨l1, l2, l3, l4, l5⟩ := h.lts hq
  obtain ⟨d1, d2, d3, d4, d5⟩ := Lay.out hd.out (q := q) (by rw [h.lens]; exact hq)
  have hdl := hd.lt
  have hel := rows_len h
  have hei := rows_at h hq
  rw [didRow] at hdr
  repeat' (first
    | ((with_reducible refine Go.red ?_); conv => whnf)
    | (with_reducible refine Go.and ?_ ?_)
    | (with_reducible exact True.intro)
    | (with_reducible refine Go.far ?_)
    | ((with_reducible refine Apt.mk ?_); (try dsimp only); omega)
    | ((with_reducible refine Ask.mk ?_); first | exact aAsk | exact aAsk2)
    | ((with_reducible refine Go.ari64 ?_ ?_ ?_); (· exact aBnd); (· exact aBnd))
    | ((with_reducible refine Go.ariu8 ?_ ?_ ?_); (· exact aBnd); (· exact aBnd))
    | (with_reducible refine Go.ari0 ?_)
    | (apply Go.elem; (· (first | exact hei _ | exact reg_at _ _ _ hD | exact reg_at _ _ _ hA | exact reg_at _ _ _ hB | exact aElem)))
    | (apply Go.row; (· exact aRow))
    | (apply Go.gives; (· exact aGives))
    | (apply Go.gives; (· exact aRes))
    | (with_reducible refine Go.unroll ?_)
    | ((with_reducible refine Go.callW (Do_not _ _ _ ht) ?_ ?_); (· exact aFit))
    | ((with_reducible refine Go.callJ (fun _ => Do_not _ _ _ ht) ?_ ?_); (· exact aFit))
    | ((with_reducible refine Go.callE (Do_not _ _ _ ht) ?_ ?_); (· exact aFit))
    | ((with_reducible refine Go.callF (fun _ => Do_not _ _ _ ht) ?_ ?_); (· exact aFit))
    | ((with_reducible refine Go.callW (One_one _ _ ho) ?_ ?_); (· exact aFit))
    | ((with_reducible refine Go.callJ (fun _ => One_one _ _ ho) ?_ ?_); (· exact aFit))
    | ((with_reducible refine Go.callE (One_one _ _ ho) ?_ ?_); (· exact aFit))
    | ((with_reducible refine Go.callF (fun _ => One_one _ _ ho) ?_ ?_); (· exact aFit))
    | (refine Go.gt rfl ?_)
    | (refine Go.gf rfl ?_)
    | (with_reducible refine Go.join ?_)
    | (refine Go.lt' rfl ?_)
    | (refine Go.lf' rfl ?_)
    | ((with_reducible refine Go.bool ?_ ?_) <;> intro hc <;> (try simp only [List.length_map, ne_eq, hcs] at hc) <;> try (exfalso; omega))
    | ((with_reducible refine Res.eq ?_ ?_); (· exact aFit)))
  refine ⟨⟨(by first | omega | (simp only [List.length_cons, List.length_nil]; omega)), ⟨_, h.next (q := q) hq ((s.core q).put i.d (opW i.op ((s.core q).reg i.a.toNat) ((s.core q).reg i.b.toNat))) (L.bufs.getD q 0) (s.mem) (s.prints) (by first | omega | (simp only [List.length_cons, List.length_nil]; omega)) (by first | exact .inl rfl | (right; omega)) ⟨_, _, aRow, rfl⟩ ⟨_, _, aRow, (by rw [opW, if_neg (by rw [ht]; simp), CoreS.av, ← put_cells _ _ _ _ hD]; rfl)⟩ ⟨_, _, aRow, rfl⟩ ⟨_, _, aRow, rfl⟩ ⟨_, _, aRow, rfl⟩ (by intro j hj hne hlt n1 n2 n3 n4 n5; have x5 := (Lay.out hd.out (q := j) (by rw [h.lens]; exact hj)).2.2.2.2; repeat (first | exact rfl | (exact hfr _ (by omega) (by omega)) | (refine Eq.trans (getH_skipEq (by first | omega | (simp only [List.length_cons, List.length_nil]; omega))) ?_)))⟩, ⟨_, aRow⟩, (by intro b' hb' hout hne; obtain ⟨o1, o2, o3, o4, o5⟩ := Lay.out hout (q := q) (by rw [h.lens]; exact hq); repeat (first | exact rfl | (exact hfr _ (by omega) (by omega)) | (refine Eq.trans (getH_skipEq (by first | omega | (simp only [List.length_cons, List.length_nil]; omega))) ?_)))⟩⟩
def doFence (s : Mach) (q : Nat) (i : Instr) (did : DidS) : Mach × DidS := (s.setCore q (s.core q), { did with kind := 5 })
theorem fence_call {o : Obj} {s : Mach} {L : Lay} {H : Hp} {nx : Nat} (h : MAt o s L H nx) {q : Nat} (hq : q < s.cores.length) {d : Nat} {did : DidS} (hd : DidAt L H nx d did) (i : Instr)  :
    CallN Try.prog 56 [turnAv s L q d i] H nx (Turned o L H nx d (doFence s q i did).1 (doFence s q i did).2) := by
  refine Go.fn Try.func56 nm56 low56 res56 nt56 rfl ?_
  obtain ⟨dm, hm⟩ := h.m
  obtain ⟨dc, hc⟩ := h.c
  obtain ⟨dmem, hmem⟩ := h.mem
  obtain ⟨dpr, hpr⟩ := h.pr
  obtain ⟨db, hb⟩ := h.bufs q hq
  obtain ⟨dd, hdr⟩ := hd.row
  obtain ⟨a1, a2, a3, a4, a5, a6, a7, a8, a9, a10⟩ := h.apart hq
  obtain ⟨l1, l2, l3, l4, l5⟩ := h.lts hq
  obtain ⟨d1, d2, d3, d4, d5⟩ := Lay.out hd.out (q := q) (by rw [h.lens]; exact hq)
  have hdl := hd.lt
  have hel := rows_len h
  have hei := rows_at h hq
  rw [didRow] at hdr
  repeat' (first
    | ((with_reducible refine Go.red ?_); conv => whnf)
    | (with_reducible refine Go.and ?_ ?_)
    | (with_reducible exact True.intro)
    | (with_reducible refine Go.far ?_)
    | ((with_reducible refine Apt.mk ?_); (try dsimp only); omega)
    | ((with_reducible refine Ask.mk ?_); first | exact aAsk | exact aAsk2)
    | ((with_reducible refine Go.ari64 ?_ ?_ ?_); (· exact aBnd); (· exact aBnd))
    | ((with_reducible refine Go.ariu8 ?_ ?_ ?_); (· exact aBnd); (· exact aBnd))
    | (with_reducible refine Go.ari0 ?_)
    | (apply Go.elem; (· (first | exact hei _ | exact aElem)))
    | (apply Go.row; (· exact aRow))
    | (apply Go.gives; (· exact aGives))
    | (apply Go.gives; (· exact aRes))
    | (with_reducible refine Go.unroll ?_)
    | (refine Go.gt rfl ?_)
    | (refine Go.gf rfl ?_)
    | (with_reducible refine Go.join ?_)
    | (refine Go.lt' rfl ?_)
    | (refine Go.lf' rfl ?_)
    | ((with_reducible refine Go.bool ?_ ?_) <;> intro hc <;> (try simp only [List.length_map, ne_eq, hcs] at hc) <;> try (exfalso; omega))
    | ((with_reducible refine Res.eq ?_ ?_); (· exact aFit)))
  refine ⟨⟨(by first | omega | (simp only [List.length_cons, List.length_nil]; omega)), ⟨_, h.next (q := q) hq (s.core q) (L.bufs.getD q 0) (s.mem) (s.prints) (by first | omega | (simp only [List.length_cons, List.length_nil]; omega)) (by first | exact .inl rfl | (right; omega)) ⟨_, _, aRow, rfl⟩ ⟨_, _, aRow, (rows_same h hq).symm⟩ ⟨_, _, aRow, rfl⟩ ⟨_, _, aRow, rfl⟩ ⟨_, _, aRow, rfl⟩ (by intro j hj hne hlt n1 n2 n3 n4 n5; have x5 := (Lay.out hd.out (q := j) (by rw [h.lens]; exact hj)).2.2.2.2; repeat (first | exact rfl | (exact hfr _ (by omega) (by omega)) | (refine Eq.trans (getH_skipEq (by first | omega | (simp only [List.length_cons, List.length_nil]; omega))) ?_)))⟩, ⟨_, aRow⟩, (by intro b' hb' hout hne; obtain ⟨o1, o2, o3, o4, o5⟩ := Lay.out hout (q := q) (by rw [h.lens]; exact hq); repeat (first | exact rfl | (exact hfr _ (by omega) (by omega)) | (refine Eq.trans (getH_skipEq (by first | omega | (simp only [List.length_cons, List.length_nil]; omega))) ?_)))⟩⟩
def doJump (s : Mach) (q : Nat) (i : Instr) (did : DidS) : Mach × DidS := (s.setCore q { s.core q with pc := i.to }, { did with kind := 1 })
theorem jump_call {o : Obj} {s : Mach} {L : Lay} {H : Hp} {nx : Nat} (h : MAt o s L H nx) {q : Nat} (hq : q < s.cores.length) {d : Nat} {did : DidS} (hd : DidAt L H nx d did) (i : Instr)  :
    CallN Try.prog 58 [turnAv s L q d i] H nx (Turned o L H nx d (doJump s q i did).1 (doJump s q i did).2) := by
  refine Go.fn Try.func58 nm58 low58 res58 nt58 rfl ?_
  obtain ⟨dm, hm⟩ := h.m
  obtain ⟨dc, hc⟩ := h.c
  obtain ⟨dmem, hmem⟩ := h.mem
  obtain ⟨dpr, hpr⟩ := h.pr
  obtain ⟨db, hb⟩ := h.bufs q hq
  obtain ⟨dd, hdr⟩ := hd.row
  obtain ⟨a1, a2, a3, a4, a5, a6, a7, a8, a9, a10⟩ := h.apart hq
  obtain ⟨l1, l2, l3, l4, l5⟩ := h.lts hq
  obtain ⟨d1, d2, d3, d4, d5⟩ := Lay.out hd.out (q := q) (by rw [h.lens]; exact hq)
  have hdl := hd.lt
  have hel := rows_len h
  have hei := rows_at h hq
  rw [didRow] at hdr
  repeat' (first
    | ((with_reducible refine Go.red ?_); conv => whnf)
    | (with_reducible refine Go.and ?_ ?_)
    | (with_reducible exact True.intro)
    | (with_reducible refine Go.far ?_)
    | ((with_reducible refine Apt.mk ?_); (try dsimp only); omega)
    | ((with_reducible refine Ask.mk ?_); first | exact aAsk | exact aAsk2)
    | ((with_reducible refine Go.ari64 ?_ ?_ ?_); (· exact aBnd); (· exact aBnd))
    | ((with_reducible refine Go.ariu8 ?_ ?_ ?_); (· exact aBnd); (· exact aBnd))
    | (with_reducible refine Go.ari0 ?_)
    | (apply Go.elem; (· (first | exact hei _ | exact aElem)))
    | (apply Go.row; (· exact aRow))
    | (apply Go.gives; (· exact aGives))
    | (apply Go.gives; (· exact aRes))
    | (with_reducible refine Go.unroll ?_)
    | (refine Go.gt rfl ?_)
    | (refine Go.gf rfl ?_)
    | (with_reducible refine Go.join ?_)
    | (refine Go.lt' rfl ?_)
    | (refine Go.lf' rfl ?_)
    | ((with_reducible refine Go.bool ?_ ?_) <;> intro hc <;> (try simp only [List.length_map, ne_eq, hcs] at hc) <;> try (exfalso; omega))
    | ((with_reducible refine Res.eq ?_ ?_); (· exact aFit)))
  refine ⟨⟨(by first | omega | (simp only [List.length_cons, List.length_nil]; omega)), ⟨_, h.next (q := q) hq ({ s.core q with pc := i.to }) (L.bufs.getD q 0) (s.mem) (s.prints) (by first | omega | (simp only [List.length_cons, List.length_nil]; omega)) (by first | exact .inl rfl | (right; omega)) ⟨_, _, aRow, rfl⟩ ⟨_, _, aRow, rfl⟩ ⟨_, _, aRow, rfl⟩ ⟨_, _, aRow, rfl⟩ ⟨_, _, aRow, rfl⟩ (by intro j hj hne hlt n1 n2 n3 n4 n5; have x5 := (Lay.out hd.out (q := j) (by rw [h.lens]; exact hj)).2.2.2.2; repeat (first | exact rfl | (exact hfr _ (by omega) (by omega)) | (refine Eq.trans (getH_skipEq (by first | omega | (simp only [List.length_cons, List.length_nil]; omega))) ?_)))⟩, ⟨_, aRow⟩, (by intro b' hb' hout hne; obtain ⟨o1, o2, o3, o4, o5⟩ := Lay.out hout (q := q) (by rw [h.lens]; exact hq); repeat (first | exact rfl | (exact hfr _ (by omega) (by omega)) | (refine Eq.trans (getH_skipEq (by first | omega | (simp only [List.length_cons, List.length_nil]; omega))) ?_)))⟩⟩
def doZero (s : Mach) (q : Nat) (i : Instr) (did : DidS) : Mach × DidS := (s.setCore q (if (s.core q).reg i.a.toNat = 0 then { s.core q with pc := i.to } else s.core q), { did with kind := 1 })
theorem zero_call {o : Obj} {s : Mach} {L : Lay} {H : Hp} {nx : Nat} (h : MAt o s L H nx) {q : Nat} (hq : q < s.cores.length) {d : Nat} {did : DidS} (hd : DidAt L H nx d did) (i : Instr) (hA : 0 ≤ i.a ∧ i.a < 16) :
    CallN Try.prog 59 [turnAv s L q d i] H nx (Turned o L H nx d (doZero s q i did).1 (doZero s q i did).2) := by
  refine Go.fn Try.func59 nm59 low59 res59 nt59 rfl ?_
  obtain ⟨dm, hm⟩ := h.m
  obtain ⟨dc, hc⟩ := h.c
  obtain ⟨dmem, hmem⟩ := h.mem
  obtain ⟨dpr, hpr⟩ := h.pr
  obtain ⟨db, hb⟩ := h.bufs q hq
  obtain ⟨dd, hdr⟩ := hd.row
  obtain ⟨a1, a2, a3, a4, a5, a6, a7, a8, a9, a10⟩ := h.apart hq
  obtain ⟨l1, l2, l3, l4, l5⟩ := h.lts hq
  obtain ⟨d1, d2, d3, d4, d5⟩ := Lay.out hd.out (q := q) (by rw [h.lens]; exact hq)
  have hdl := hd.lt
  have hel := rows_len h
  have hei := rows_at h hq
  rw [didRow] at hdr
  repeat' (first
    | ((with_reducible refine Go.red ?_); conv => whnf)
    | (with_reducible refine Go.and ?_ ?_)
    | (with_reducible exact True.intro)
    | (with_reducible refine Go.far ?_)
    | ((with_reducible refine Apt.mk ?_); (try dsimp only); omega)
    | ((with_reducible refine Ask.mk ?_); first | exact aAsk | exact aAsk2)
    | ((with_reducible refine Go.ari64 ?_ ?_ ?_); (· exact aBnd); (· exact aBnd))
    | ((with_reducible refine Go.ariu8 ?_ ?_ ?_); (· exact aBnd); (· exact aBnd))
    | (with_reducible refine Go.ari0 ?_)
    | (apply Go.elem; (· (first | exact hei _ | exact reg_at _ _ _ hA | exact aElem)))
    | (apply Go.row; (· exact aRow))
    | (apply Go.gives; (· exact aGives))
    | (apply Go.gives; (· exact aRes))
    | (with_reducible refine Go.unroll ?_)
    | (refine Go.gt rfl ?_)
    | (refine Go.gf rfl ?_)
    | (with_reducible refine Go.join ?_)
    | (refine Go.lt' rfl ?_)
    | (refine Go.lf' rfl ?_)
    | ((with_reducible refine Go.bool ?_ ?_) <;> intro hc <;> (try simp only [List.length_map, ne_eq, hcs] at hc) <;> try (exfalso; omega))
    | ((with_reducible refine Res.eq ?_ ?_); (· exact aFit)))
  · refine ⟨⟨(by first | omega | (simp only [List.length_cons, List.length_nil]; omega)), ⟨_, h.next (q := q) hq (if (s.core q).reg i.a.toNat = 0 then { s.core q with pc := i.to } else s.core q) (L.bufs.getD q 0) (s.mem) (s.prints) (by first | omega | (simp only [List.length_cons, List.length_nil]; omega)) (by first | exact .inl rfl | (right; omega)) ⟨_, _, aRow, rfl⟩ ⟨_, _, aRow, (by rw [if_pos (by assumption)]; try rfl)⟩ ⟨_, _, aRow, rfl⟩ ⟨_, _, aRow, rfl⟩ ⟨_, _, aRow, (by rw [if_pos (by assumption)]; try rfl)⟩ (by intro j hj hne hlt n1 n2 n3 n4 n5; have x5 := (Lay.out hd.out (q := j) (by rw [h.lens]; exact hj)).2.2.2.2; repeat (first | exact rfl | (exact hfr _ (by omega) (by omega)) | (refine Eq.trans (getH_skipEq (by first | omega | (simp only [List.length_cons, List.length_nil]; omega))) ?_)))⟩, ⟨_, aRow⟩, (by intro b' hb' hout hne; obtain ⟨o1, o2, o3, o4, o5⟩ := Lay.out hout (q := q) (by rw [h.lens]; exact hq); repeat (first | exact rfl | (exact hfr _ (by omega) (by omega)) | (refine Eq.trans (getH_skipEq (by first | omega | (simp only [List.length_cons, List.length_nil]; omega))) ?_)))⟩⟩
  · refine ⟨⟨(by first | omega | (simp only [List.length_cons, List.length_nil]; omega)), ⟨_, h.next (q := q) hq (if (s.core q).reg i.a.toNat = 0 then { s.core q with pc := i.to } else s.core q) (L.bufs.getD q 0) (s.mem) (s.prints) (by first | omega | (simp only [List.length_cons, List.length_nil]; omega)) (by first | exact .inl rfl | (right; omega)) ⟨_, _, aRow, rfl⟩ ⟨_, _, aRow, (by rw [if_neg (by assumption)]; exact (rows_same h hq).symm)⟩ ⟨_, _, aRow, rfl⟩ ⟨_, _, aRow, rfl⟩ ⟨_, _, aRow, (by rw [if_neg (by assumption)]; try rfl)⟩ (by intro j hj hne hlt n1 n2 n3 n4 n5; have x5 := (Lay.out hd.out (q := j) (by rw [h.lens]; exact hj)).2.2.2.2; repeat (first | exact rfl | (exact hfr _ (by omega) (by omega)) | (refine Eq.trans (getH_skipEq (by first | omega | (simp only [List.length_cons, List.length_nil]; omega))) ?_)))⟩, ⟨_, aRow⟩, (by intro b' hb' hout hne; obtain ⟨o1, o2, o3, o4, o5⟩ := Lay.out hout (q := q) (by rw [h.lens]; exact hq); repeat (first | exact rfl | (exact hfr _ (by omega) (by omega)) | (refine Eq.trans (getH_skipEq (by first | omega | (simp only [List.length_cons, List.length_nil]; omega))) ?_)))⟩⟩
def doHalt (s : Mach) (q : Nat) (i : Instr) (did : DidS) : Mach × DidS := (s.setCore q { s.core q with pc := did.pc, halted := true }, { did with kind := 7 })
theorem halt_call {o : Obj} {s : Mach} {L : Lay} {H : Hp} {nx : Nat} (h : MAt o s L H nx) {q : Nat} (hq : q < s.cores.length) {d : Nat} {did : DidS} (hd : DidAt L H nx d did) (i : Instr)  :
    CallN Try.prog 60 [turnAv s L q d i] H nx (Turned o L H nx d (doHalt s q i did).1 (doHalt s q i did).2) := by
  refine Go.fn Try.func60 nm60 low60 res60 nt60 rfl ?_
  obtain ⟨dm, hm⟩ := h.m
  obtain ⟨dc, hc⟩ := h.c
  obtain ⟨dmem, hmem⟩ := h.mem
  obtain ⟨dpr, hpr⟩ := h.pr
  obtain ⟨db, hb⟩ := h.bufs q hq
  obtain ⟨dd, hdr⟩ := hd.row
  obtain ⟨a1, a2, a3, a4, a5, a6, a7, a8, a9, a10⟩ := h.apart hq
  obtain ⟨l1, l2, l3, l4, l5⟩ := h.lts hq
  obtain ⟨d1, d2, d3, d4, d5⟩ := Lay.out hd.out (q := q) (by rw [h.lens]; exact hq)
  have hdl := hd.lt
  have hel := rows_len h
  have hei := rows_at h hq
  rw [didRow] at hdr
  repeat' (first
    | ((with_reducible refine Go.red ?_); conv => whnf)
    | (with_reducible refine Go.and ?_ ?_)
    | (with_reducible exact True.intro)
    | (with_reducible refine Go.far ?_)
    | ((with_reducible refine Apt.mk ?_); (try dsimp only); omega)
    | ((with_reducible refine Ask.mk ?_); first | exact aAsk | exact aAsk2)
    | ((with_reducible refine Go.ari64 ?_ ?_ ?_); (· exact aBnd); (· exact aBnd))
    | ((with_reducible refine Go.ariu8 ?_ ?_ ?_); (· exact aBnd); (· exact aBnd))
    | (with_reducible refine Go.ari0 ?_)
    | (apply Go.elem; (· (first | exact hei _ | exact aElem)))
    | (apply Go.row; (· exact aRow))
    | (apply Go.gives; (· exact aGives))
    | (apply Go.gives; (· exact aRes))
    | (with_reducible refine Go.unroll ?_)
    | (refine Go.gt rfl ?_)
    | (refine Go.gf rfl ?_)
    | (with_reducible refine Go.join ?_)
    | (refine Go.lt' rfl ?_)
    | (refine Go.lf' rfl ?_)
    | ((with_reducible refine Go.bool ?_ ?_) <;> intro hc <;> (try simp only [List.length_map, ne_eq, hcs] at hc) <;> try (exfalso; omega))
    | ((with_reducible refine Res.eq ?_ ?_); (· exact aFit)))
  refine ⟨⟨(by first | omega | (simp only [List.length_cons, List.length_nil]; omega)), ⟨_, h.next (q := q) hq ({ s.core q with pc := did.pc, halted := true }) (L.bufs.getD q 0) (s.mem) (s.prints) (by first | omega | (simp only [List.length_cons, List.length_nil]; omega)) (by first | exact .inl rfl | (right; omega)) ⟨_, _, aRow, rfl⟩ ⟨_, _, aRow, (by simp only [set_set]; rfl)⟩ ⟨_, _, aRow, rfl⟩ ⟨_, _, aRow, rfl⟩ ⟨_, _, aRow, rfl⟩ (by intro j hj hne hlt n1 n2 n3 n4 n5; have x5 := (Lay.out hd.out (q := j) (by rw [h.lens]; exact hj)).2.2.2.2; repeat (first | exact rfl | (exact hfr _ (by omega) (by omega)) | (refine Eq.trans (getH_skipEq (by first | omega | (simp only [List.length_cons, List.length_nil]; omega))) ?_)))⟩, ⟨_, aRow⟩, (by intro b' hb' hout hne; obtain ⟨o1, o2, o3, o4, o5⟩ := Lay.out hout (q := q) (by rw [h.lens]; exact hq); repeat (first | exact rfl | (exact hfr _ (by omega) (by omega)) | (refine Eq.trans (getH_skipEq (by first | omega | (simp only [List.length_cons, List.length_nil]; omega))) ?_)))⟩⟩
end Go.Proofs.Ytliabecchkolgaa
