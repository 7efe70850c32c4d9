/- The document's machine as a value: what it begins as, what waits, what a load sees. -/
import Derived.Test.YtliabecchkolgaaGreatVlook
namespace Go.Proofs.YtliabecchkolgaaGreat
open Go Go.Abs Go.Proofs
set_option linter.unusedSimpArgs false
set_option linter.unusedVariables false
abbrev stAv (o : Obj) (s : Mach) : AV := .agg [.im 1 .any (o.mem.map i64), i64 o.shared, i64 o.locks, i64 o.buffer, .im 2 .any (o.cores.map Core.av), .im 19 .any (s.cores.map CoreS.frozen), .im 1 .any (s.mem.map i64), .im 2 .any (s.prints.map PrintS.av)]
theorem fit_st (n : Nat) (o : Obj) (s : Mach) : fitA n (stAv o s) := by
  simp [stAv, fitA, fitL, fitL_map, CoreS.cells]
theorem drains_pure (k : Int) : Pure Tryz.prog 74 [u8 k] (fun r => r = bl (decide (k = 5) || decide (k = 6) || decide (k = 7))) := by
  refine Go.pure Tryz.func74 nm74 low74 res74 nt74 rfl ?_
  repeat' (first
    | ((with_reducible refine Go.red ?_); conv => whnf)
    | (with_reducible refine Go.and ?_ ?_)
    | (with_reducible exact True.intro)
    | (with_reducible refine Go.far ?_)
    | ((with_reducible refine Apt.mk ?_); (try dsimp only); omega)
    | ((with_reducible refine Ask.mk ?_); first | exact aAsk | exact aAsk2)
    | ((with_reducible refine Go.ari64 ?_ ?_ ?_); (· exact aBnd); (· exact aBnd))
    | ((with_reducible refine Go.ariu8 ?_ ?_ ?_); (· exact aBnd); (· exact aBnd))
    | (with_reducible refine Go.ari0 ?_)
    | (apply Go.elem; (· exact aElem))
    | (apply Go.row; (· exact aRow))
    | (apply Go.gives; (· exact aGives))
    | (apply Go.gives; (· exact aRes))
    | (with_reducible refine Go.unroll ?_)
    | (refine Go.gt rfl ?_)
    | (refine Go.gf rfl ?_)
    | (with_reducible refine Go.join ?_)
    | (refine Go.lt' rfl ?_)
    | (refine Go.lf' rfl ?_)
    | ((with_reducible refine Go.bool ?_ ?_) <;> intro hc <;> (try simp only [List.length_map, ne_eq, hcs] at hc) <;> try (exfalso; omega))
    | ((with_reducible refine Res.eq ?_ ?_); (· exact aFit)))
  all_goals (congr 2; rw [Bool.eq_iff_iff]; simp <;> omega)
theorem stalls_eq (o : Obj) (s : Mach) (q : Nat) (i : Instr) : (if (if (decide (i.kind = 5) || decide (i.kind = 6) || decide (i.kind = 7)) = true then decide ((0 : Int) < (List.map StoreS.av (s.core q).buf).length) else false) = true then true else if decide (i.kind = 4) = true then decide (o.buffer ≤ (List.map StoreS.av (s.core q).buf).length) else false) = stallsF o s q i := by
  simp only [stallsF, List.length_map]
  by_cases k4 : i.kind = 4
  · simp [k4]
  · rw [if_neg k4]
    by_cases k5 : i.kind = 5 ∨ i.kind = 6 ∨ i.kind = 7
    · rw [if_pos k5]
      have h9 : (decide (i.kind = 5) || decide (i.kind = 6) || decide (i.kind = 7)) = true := by rw [Bool.eq_iff_iff]; simp; omega
      simp only [h9, if_true]
      simp [k4]
    · rw [if_neg k5]
      have h9 : (decide (i.kind = 5) || decide (i.kind = 6) || decide (i.kind = 7)) = false := by
        rw [Bool.eq_false_iff]; intro h; apply k5; simpa [or_assoc] using h
      simp [h9, k4]
theorem waits_pure {o : Obj} {s : Mach} (g : Good o s) (ok : ObjOk o) (q : Nat) (hq : q < s.cores.length) : Pure Tryz.prog 48 [stAv o s, i64 q] (fun r => r = bl (stallsF o s q (instrAt o s q))) := by
  refine Go.pure Tryz.func48 nm48 low48 res48 nt48 rfl ?_
  have hqo : q < o.cores.length := by rw [← g.n]; exact hq
  have hpc := g.pc q hq
  have hpc2 : (s.core q).pc.toNat < (o.core q).code.length := by omega
  have hpc3 : 0 ≤ (s.core q).pc := hpc.1
  repeat' (first
    | ((with_reducible refine Go.red ?_); conv => whnf)
    | (with_reducible refine Go.and ?_ ?_)
    | (with_reducible exact True.intro)
    | (with_reducible refine Go.far ?_)
    | ((with_reducible refine Apt.mk ?_); (try dsimp only); omega)
    | ((with_reducible refine Ask.mk ?_); first | exact aAsk | exact aAsk2)
    | ((with_reducible refine Go.ari64 ?_ ?_ ?_); (· exact aBnd); (· exact aBnd))
    | ((with_reducible refine Go.ariu8 ?_ ?_ ?_); (· exact aBnd); (· exact aBnd))
    | (with_reducible refine Go.ari0 ?_)
    | (apply Go.elem; (· (first | exact frozen_at hq _ | exact getD_av _ _ _ _ hpc2 | exact aElem)))
    | (apply Go.row; (· exact aRow))
    | (apply Go.gives; (· exact aGives))
    | (apply Go.gives; (· exact aRes))
    | (with_reducible refine Go.unroll ?_)
    | ((with_reducible refine Go.callW (drains_pure _) ?_ ?_); (· exact aFit))
    | ((with_reducible refine Go.callJ (fun _ => drains_pure _) ?_ ?_); (· exact aFit))
    | ((with_reducible refine Go.callE (drains_pure _) ?_ ?_); (· exact aFit))
    | ((with_reducible refine Go.callF (fun _ => drains_pure _) ?_ ?_); (· exact aFit))
    | (refine Go.gt rfl ?_)
    | (refine Go.gf rfl ?_)
    | (with_reducible refine Go.join ?_)
    | (refine Go.lt' rfl ?_)
    | (refine Go.lf' rfl ?_)
    | ((with_reducible refine Go.bool ?_ ?_) <;> intro hc <;> (try simp only [List.length_map, ne_eq, hcs] at hc) <;> try (exfalso; omega))
    | ((with_reducible refine Res.eq ?_ ?_); (· exact aFit)))
  exact congrArg (fun b => bl b) (stalls_eq o s q (instrAt o s q))
theorem seenF_none {a : Int} : ∀ {t : List StoreS} {r : Int × Bool}, (∀ j, j < t.length → (t.getD j default).addr ≠ a) → seenF a t r = r
  | [], _, _ => rfl
  | y :: t, r, h => by
    rw [seenF, if_neg (by simpa using h 0 (by simp))]
    exact seenF_none fun j hj => by simpa using h (j + 1) (by simpa using hj)
theorem seenF_last {a : Int} : ∀ {l : List StoreS} {r : Int × Bool} {i : Nat}, i < l.length → (l.getD i default).addr = a → (∀ j, i < j → j < l.length → (l.getD j default).addr ≠ a) → seenF a l r = ((l.getD i default).word, true)
  | [], _, _, h, _, _ => by simp at h
  | x :: t, r, 0, _, ha, h => by
    rw [seenF, if_pos (by simpa using ha)]
    rw [seenF_none fun j hj => by simpa using h (j + 1) (by omega) (by simpa using hj)]
    simp
  | x :: t, r, i + 1, hi, ha, h => by
    rw [seenF]
    simpa using seenF_last (l := t) (r := if x.addr = a then (x.word, true) else r) (i := i) (by simpa using hi) (by simpa using ha) fun j h1 h2 => by simpa using h (j + 1) (by omega) (by simpa using h2)
theorem seen_pure (o : Obj) (s : Mach) (c : CoreS) (addr : Int) (ha : 0 ≤ addr ∧ addr < s.mem.length) (hb : c.buf.length < 1000) : Pure Tryz.prog 53 [stAv o s, c.frozen, i64 addr] (fun r => r = .tup [i64 (seenF addr c.buf (s.mem.getD addr.toNat 0, false)).1, bl (seenF addr c.buf (s.mem.getD addr.toNat 0, false)).2]) := by
  refine Go.pure Tryz.func53 nm53 low53 res53 nt53 rfl ?_
  repeat' (first
    | ((with_reducible refine Go.red ?_); conv => whnf)
    | (with_reducible refine Go.and ?_ ?_)
    | (with_reducible exact True.intro)
    | (with_reducible refine Go.far ?_)
    | ((with_reducible refine Apt.mk ?_); (try dsimp only); omega)
    | ((with_reducible refine Ask.mk ?_); first | exact aAsk | exact aAsk2)
    | ((with_reducible refine Go.ari64 ?_ ?_ ?_); (· exact aBnd); (· exact aBnd))
    | ((with_reducible refine Go.ariu8 ?_ ?_ ?_); (· exact aBnd); (· exact aBnd))
    | (with_reducible refine Go.ari0 ?_)
    | (apply Go.elem; (· exact aElem))
    | (apply Go.row; (· exact aRow))
    | (apply Go.gives; (· exact aGives))
    | (apply Go.gives; (· exact aRes))
    | (with_reducible refine Go.unroll ?_)
    | (refine Go.gt rfl ?_)
    | (refine Go.gf rfl ?_)
    | (with_reducible refine Go.join ?_)
    | (refine Go.lt' rfl ?_)
    | (refine Go.lf' rfl ?_)
    | ((with_reducible refine Go.bool ?_ ?_) <;> intro hc <;> (try simp only [List.length_map, ne_eq, hcs] at hc) <;> try (exfalso; omega))
    | ((with_reducible refine Res.eq ?_ ?_); (· exact aFit)))
  refine Go.loop (fun p : Nat => [(2, i64 addr), (3, .pt 0 1 0 0), (4, .pt 1 1 0 0), (8, i64 ((p : Int) - 1))]) (fun p H' n => p ≤ c.buf.length ∧ 2 ≤ n ∧ getH H' 0 = some (.row 39 8 .any [stAv o s]) ∧ getH H' 1 = some (.row 81 19 .any [c.frozen]) ∧ ∀ j, p ≤ j → j < c.buf.length → (c.buf.getD j default).addr ≠ addr) (fun p => p) c.buf.length ?_ ⟨Nat.le_refl _, aNx, aRow, aRow, fun j h1 h2 => by omega⟩ ?_
  · rw [show (c.buf.length : Int) = (c.buf.map StoreS.av).length by simp]; exact aLess
  rintro p H' n ⟨hp, hn, r0, r1, hno⟩
  repeat' (first
      | ((with_reducible refine Go.red ?_); conv => whnf)
      | (with_reducible refine Go.and ?_ ?_)
      | (with_reducible exact True.intro)
      | (with_reducible refine Go.far ?_)
      | ((with_reducible refine Apt.mk ?_); (try dsimp only); omega)
      | ((with_reducible refine Ask.mk ?_); first | exact aAsk | exact aAsk2)
      | ((with_reducible refine Go.ari64 ?_ ?_ ?_); (· exact aBnd); (· exact aBnd))
      | ((with_reducible refine Go.ariu8 ?_ ?_ ?_); (· exact aBnd); (· exact aBnd))
      | (with_reducible refine Go.ari0 ?_)
      | (apply Go.elem; (· exact aElem))
      | (apply Go.row; (· exact aRow))
      | (apply Go.gives; (· exact aGives))
      | (apply Go.gives; (· exact aRes))
      | (with_reducible refine Go.unroll ?_)
      | (refine Go.gt rfl ?_)
      | (refine Go.gf rfl ?_)
      | (with_reducible refine Go.join ?_)
      | (refine Go.lt' rfl ?_)
      | (refine Go.lf' rfl ?_)
      | ((with_reducible refine Go.bool ?_ ?_) <;> intro hc <;> (try simp only [List.length_map, ne_eq, hcs] at hc) <;> try (exfalso; omega))
      | ((with_reducible refine Res.eq ?_ ?_); (· exact aFit)))
  · have h9 : ((p : Int) - 1).toNat = p - 1 := by omega
    rw [h9] at hc
    have hlast := seenF_last (a := addr) (l := c.buf) (r := (s.mem.getD addr.toNat 0, false)) (i := p - 1) (by omega) hc (fun j h1 h2 => hno j (by omega) h2)
    rw [hlast, h9]
  · refine ⟨p - 1, by omega, ?_, by omega, aNx, aRow, aRow, fun j h1 h2 => ?_⟩
    · have h9 : (((p - 1 : Nat) : Int) - 1) = (p : Int) - 1 - 1 := by omega
      rw [h9]; exact aLess
    · by_cases hj : j = p - 1
      · subst hj
        have h9 : ((p : Int) - 1).toNat = p - 1 := by omega
        rw [h9] at hc; exact hc
      · exact hno j (by omega) h2
  · rw [seenF_none fun j hj => hno j (by omega) hj]
    rfl
end Go.Proofs.YtliabecchkolgaaGreat
