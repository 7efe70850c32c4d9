/- The document's machine runs. -/
import Derived.Test.YtliabecchkolgaaGreatWo
namespace Go.Proofs.YtliabecchkolgaaGreat
open Go Go.Abs Go.Proofs
set_option linter.unusedSimpArgs false
set_option linter.unusedVariables false
abbrev outAv (o : Obj) (x : Mach × DidS × Int) : AV := .tup [stAv o x.1, x.2.1.av, i64 x.2.2]
theorem frz_coreG {H : Hp} {b : Nat} {d : AV} {c : CoreS} (k : Nat) (h : getH H b = some (.row 97 3 d (c.buf.map StoreS.av))) : Abs.frz H (k + 3) (c.av b) = c.frozen := by
  simp only [CoreS.av, Abs.frz, CoreS.cells, List.map_cons, List.map_nil, frz_sc, h]
  rw [if_pos (by simp), frz_same (k + 1) (by simp [fitL_map, fitA, fitL])]
  rfl
theorem frz_coreK {H : Hp} {b : Nat} {d : AV} {c : CoreS} (h : getH H b = some (.row 97 3 d (c.buf.map StoreS.av))) : Abs.frz H 3 (c.av b) = c.frozen := frz_coreG 0 h
theorem set_frz {s : Mach} {B : List Nat} {H : Hp} {q : Nat} {x : AV} {c : CoreS} (hl : B.length = s.cores.length) (hx : Abs.frz H 3 x = c.frozen) (hB : ∀ j, j < s.cores.length → j ≠ q → ∃ d, getH H (B.getD j 0) = some (.row 97 3 d ((s.core j).buf.map StoreS.av))) : ((mixed s B).set q x).map (Abs.frz H 3) = (s.cores.set q c).map CoreS.frozen := by
  apply List.ext_getElem
  · simp [mixed, hl]
  · intro i h1 h2
    have hi : i < s.cores.length := by simpa using h2
    have hib : i < B.length := by rw [hl]; exact hi
    simp only [List.getElem_map, List.getElem_set, mixed, List.getElem_zipWith]
    by_cases he : q = i
    · simp [he, hx]
    · simp only [he, if_false]
      obtain ⟨d, hd⟩ := hB i hi (Ne.symm he)
      have e1 : B.getD i 0 = B[i] := by simp [List.getD, hib]
      have e2 : s.core i = s.cores[i] := by simp [List.getD, hi]
      rw [e1, e2] at hd
      exact frz_coreK hd
theorem out_frz {o : Obj} {s : Mach} {H : Hp} {c m p n k l : Nat} (j : Nat) {d1 d2 d3 : AV} {es : List AV} (hc : getH H c = some (.row 81 19 d1 es)) (hl : es.length = n) (hes : es.map (Abs.frz H (j + 3)) = s.cores.map CoreS.frozen) (hm : getH H m = some (.row 2 1 d2 (s.mem.map i64))) (hk : (s.mem.map i64).length = k) (hp : getH H p = some (.row 105 2 d3 (s.prints.map PrintS.av))) (hl2 : (s.prints.map PrintS.av).length = l) :
    List.map (Abs.frz H (j + 4)) [.im 1 .any (o.mem.map i64), i64 o.shared, i64 o.locks, i64 o.buffer, .im 2 .any (o.cores.map Core.av), .sl c n, .sl m k, .sl p l] = [.im 1 .any (o.mem.map i64), i64 o.shared, i64 o.locks, i64 o.buffer, .im 2 .any (o.cores.map Core.av), .im 19 .any (s.cores.map CoreS.frozen), .im 1 .any (s.mem.map i64), .im 2 .any (s.prints.map PrintS.av)] := by
  simp only [List.map_cons, List.map_nil, frz_sl (k := j + 3) hc hl, frz_sl (k := j + 3) hm hk, frz_sl (k := j + 3) hp hl2, hes, frz_sc]
  rw [frz_same (j + 3) (by simp [fitL_map, fitA]), frz_same (j + 3) (by simp [fitL_map, fitA, fitL])]
  rw [frz_fit (j + 4) (by simp [fitA, fitL, fitL_map]), frz_fit (j + 4) (by simp [fitA, fitL, fitL_map])]
theorem mixed_frz {s : Mach} {B : List Nat} {H : Hp} (k : Nat) (hl : B.length = s.cores.length) (hB : ∀ j, j < s.cores.length → ∃ d, getH H (B.getD j 0) = some (.row 97 3 d ((s.core j).buf.map StoreS.av))) : (mixed s B).map (Abs.frz H (k + 3)) = s.cores.map CoreS.frozen := by
  apply List.ext_getElem
  · simp [mixed, hl]
  · intro i h1 h2
    have hi : i < s.cores.length := by simpa using h2
    have hib : i < B.length := by rw [hl]; exact hi
    simp only [List.getElem_map, mixed, List.getElem_zipWith]
    obtain ⟨d, hd⟩ := hB i hi
    have e1 : B.getD i 0 = B[i] := by simp [List.getD, hib]
    have e2 : s.core i = s.cores[i] := by simp [List.getD, hi]
    rw [e1, e2] at hd
    exact frz_coreG k hd
theorem seen_args {o : Obj} {s : Mach} {K : RLay} {H : Hp} {c : CoreS} {b : Nat} {a : AV} {d1 d2 d3 d4 : AV} (hl : K.bufs.length = s.cores.length) (hc : getH H K.c = some (.row 81 19 d1 (mixed s K.bufs))) (hm : getH H K.mem = some (.row 2 1 d2 (s.mem.map i64))) (hp : getH H K.pr = some (.row 105 2 d3 (s.prints.map PrintS.av)))
    (hB : ∀ j, j < s.cores.length → ∃ d, getH H (K.bufs.getD j 0) = some (.row 97 3 d ((s.core j).buf.map StoreS.av))) (hb : getH H b = some (.row 97 3 d4 (c.buf.map StoreS.av))) (ha : Abs.frz H 6 a = a) :
    List.map (Abs.frz H 6) [.agg [.im 1 .any (o.mem.map i64), i64 o.shared, i64 o.locks, i64 o.buffer, .im 2 .any (o.cores.map Core.av), .sl K.c s.cores.length, .sl K.mem s.mem.length, .sl K.pr s.prints.length], .agg (c.cells (.sl b c.buf.length)), a] = [stAv o s, c.frozen, a] := by
  have h1 : Abs.frz H 6 (.agg (c.cells (.sl b c.buf.length))) = c.frozen := frz_coreG 3 hb
  have h2 := out_frz (o := o) (s := s) 1 hc (mixed_len hl) (mixed_frz 1 hl hB) hm (List.length_map ..) hp (List.length_map ..)
  simp only [List.map_cons, List.map_nil, ha, h1]
  exact congrArg (fun z => [AV.agg z, c.frozen, a]) h2
theorem allOne_set {y : AV} (h2 : one y = true) : ∀ {es : List AV} {i : Nat}, allOne es = true → allOne (es.set i y) = true
  | [], _, h => h
  | x :: t, 0, h => by simp only [allOne, Bool.and_eq_true, List.set] at h ⊢; exact ⟨h2, h.2⟩
  | x :: t, i + 1, h => by simp only [allOne, Bool.and_eq_true, List.set] at h ⊢; exact ⟨h.1, allOne_set h2 h.2⟩
theorem aOne {p : Prop} (h : p := by repeat (first | (refine allOne_set rfl ?_) | exact rfl)) : p := h
theorem st_core {x : List AV} {ys : List AV} (hl : ys.length = 19) (ho : allOne ys = true) : stE true 19 (.agg x) (.agg ys) 19 0 = some (.agg ys) := by
  simp [stE, hl, ho]
theorem frz_im {H : Hp} {k : Nat} {a : AV} (h : fitA 0 a) : Abs.frz H k a = a := frz_fit k h
/-- A state that is handed back, told by what stands in its rows. -/
theorem fin_out {o : Obj} {s : Mach} {K : RLay} {H : Hp} {q : Nat} {x : AV} {c : CoreS} {b : Nat} {mem : List Int} {pr : List PrintS} {did : DidS} {dd : List AV} {dc : AV} {k l : Nat}
    (hBl : K.bufs.length = s.cores.length)
    (hc : getH H K.c = some (.row 81 19 dc ((mixed s K.bufs).set q x)))
    (hx : x = c.av b) (hb : ∃ d es, getH H b = some (.row 97 3 d es) ∧ es = c.buf.map StoreS.av)
    (hB : ∀ j, j < s.cores.length → j ≠ q → ∃ d, getH H (K.bufs.getD j 0) = some (.row 97 3 d ((s.core j).buf.map StoreS.av)))
    (hm : ∃ d es, getH H K.mem = some (.row 2 1 d es) ∧ es = mem.map i64) (hk : mem.length = k) (hp : ∃ d es, getH H K.pr = some (.row 105 2 d es) ∧ es = pr.map PrintS.av) (hl : pr.length = l) (hd : AV.agg dd = did.av) :
    AV.tup [AV.agg (List.map (Abs.frz H 4) [.im 1 .any (o.mem.map i64), i64 o.shared, i64 o.locks, i64 o.buffer, .im 2 .any (o.cores.map Core.av), .sl K.c s.cores.length, .sl K.mem k, .sl K.pr l]), AV.agg (List.map (Abs.frz H 4) dd), i64 0] = outAv o ({ s.setCore q c with mem := mem, prints := pr }, did, 0) := by
  obtain ⟨d1, es1, hm, rfl⟩ := hm
  obtain ⟨d2, es2, hp, rfl⟩ := hp
  obtain ⟨d3, es3, hb, rfl⟩ := hb
  subst hx
  have h1 := out_frz (o := o) (s := { s.setCore q c with mem := mem, prints := pr }) 0 (n := s.cores.length) (k := k) (l := l) hc (by simp [mixed_len hBl]) (set_frz hBl (frz_coreK hb) hB) hm (by simp [hk]) hp (by simp [hl])
  have h2 : List.map (Abs.frz H 4) dd = dd := frz_same 4 (by injection hd with hd; rw [hd]; simp [fitL, fitA])
  rw [h2, hd]
  exact congrArg (fun z => AV.tup [AV.agg z, did.av, i64 0]) h1
theorem fin_rows {s : Mach} {K : RLay} {H H2 : Hp} {q : Nat} (hbufs : ∀ i, i < s.cores.length → ∃ d, getH H (K.bufs.getD i 0) = some (.row 97 3 d ((s.core i).buf.map StoreS.av))) (hk : ∀ i, i < s.cores.length → i ≠ q → getH H2 (K.bufs.getD i 0) = getH H (K.bufs.getD i 0)) : ∀ j, j < s.cores.length → j ≠ q → ∃ d, getH H2 (K.bufs.getD j 0) = some (.row 97 3 d ((s.core j).buf.map StoreS.av)) := by
  intro j h1 h2
  obtain ⟨d, h⟩ := hbufs j h1
  exact ⟨d, (hk j h1 h2).trans h⟩
theorem act1 {s : Mach} {q : Nat} {i : Instr} {d : DidS} (h : i.kind = 1) : act s q i d = doSet s q i d := by simp [act, h]
theorem act2 {s : Mach} {q : Nat} {i : Instr} {d : DidS} (h : i.kind = 2) : act s q i d = doOp s q i d := by simp [act, h]
theorem act3 {s : Mach} {q : Nat} {i : Instr} {d : DidS} (h : i.kind = 3) : act s q i d = doLoad s q i d := by simp [act, h]
theorem act4 {s : Mach} {q : Nat} {i : Instr} {d : DidS} (h : i.kind = 4) : act s q i d = doStore s q i d := by simp [act, h]
theorem act5 {s : Mach} {q : Nat} {i : Instr} {d : DidS} (h : i.kind = 5) : act s q i d = doSwap s q i d := by simp [act, h]
theorem act6 {s : Mach} {q : Nat} {i : Instr} {d : DidS} (h : i.kind = 6) : act s q i d = doFence s q i d := by simp [act, h]
theorem act7 {s : Mach} {q : Nat} {i : Instr} {d : DidS} (h : i.kind = 7) : act s q i d = doPrint s q i d := by simp [act, h]
theorem act8 {s : Mach} {q : Nat} {i : Instr} {d : DidS} (h : i.kind = 8) : act s q i d = doJump s q i d := by simp [act, h]
theorem act9 {s : Mach} {q : Nat} {i : Instr} {d : DidS} (h : i.kind = 9) : act s q i d = doZero s q i d := by simp [act, h]
theorem act10 {s : Mach} {q : Nat} {i : Instr} {d : DidS} (h : i.kind = 10) : act s q i d = doHalt s q i d := by simp [act, h]
theorem op17 {i : Instr} {code mem : Int} (h : ActOk i code mem) (h2 : i.kind = 2) (ht : two i.op = false) : i.op = 17 ∨ i.op = 18 := by
  have := h.op h2
  simp only [two, Bool.and_eq_false_iff, decide_eq_false_iff_not] at ht
  omega
theorem flat2 (a b : Value) : flatR (.tup [.sc a, .sc b]) := by
  intro x hx
  simp only [List.mem_cons, List.not_mem_nil, or_false] at hx
  rcases hx with rfl | rfl <;> exact .inl ⟨_, rfl⟩
theorem oneD {i : Instr} {code mem a b : Int} (h : ActOk i code mem) (h2 : i.kind = 2) (ht : two i.op = false) : (if i.op = 17 ∨ i.op = 18 then oneW i.op a else 0) = opW i.op a b := by
  rw [if_pos (op17 h h2 ht), opW, ht]; rfl
theorem seen_rows {s : Mach} {K : RLay} {H H2 : Hp} {n : Nat} (hbufs : ∀ i, i < s.cores.length → ∃ d, getH H (K.bufs.getD i 0) = some (.row 97 3 d ((s.core i).buf.map StoreS.av)))
    (hall : ∀ j, j < s.cores.length → K.bufs.getD j 0 ≠ K.c ∧ K.bufs.getD j 0 ≠ K.mem ∧ K.bufs.getD j 0 ≠ K.pr ∧ 4 ≤ K.bufs.getD j 0 ∧ K.bufs.getD j 0 < n) (hk : ∀ b, b ≠ K.c → b ≠ K.mem → b ≠ K.pr → 4 ≤ b → b < n → getH H2 b = getH H b) : ∀ j, j < s.cores.length → ∃ d, getH H2 (K.bufs.getD j 0) = some (.row 97 3 d ((s.core j).buf.map StoreS.av)) := by
  intro j hj
  obtain ⟨d, h⟩ := hbufs j hj
  obtain ⟨g1, g2, g3, g4, g5⟩ := hall j hj
  exact ⟨d, (hk _ g1 g2 g3 g4 g5).trans h⟩
theorem pc_set (c : CoreS) (v w : AV) (k : Nat) : ((c.cells v).set (0 + 2 + k * 1) w).getD (0 + 0) .any = i64 c.pc := by
  rw [show 0 + 2 + k * 1 = (k + 1) + 1 by omega]; rfl
theorem out_act {o : Obj} {s s2 : Mach} {q : Nat} {i : Instr} {d d2 : DidS} {r : AV} (h : r = outAv o (s2, d2, 0)) (ha : act s q i d = (s2, d2)) : r = outAv o ((act s q i d).1, (act s q i d).2, 0) := by rw [ha]; exact h
theorem put_cells2 (c : CoreS) (v : AV) (k : Int) (w p : Int) (h : 0 ≤ k ∧ k < 16) : ((c.cells v).set (2 + k.toNat * 1) (i64 w)).set 0 (i64 p) = (CoreS.put { c with pc := p } k w).cells v := by
  rw [put_cells _ _ _ _ h]; rfl
end Go.Proofs.YtliabecchkolgaaGreat
