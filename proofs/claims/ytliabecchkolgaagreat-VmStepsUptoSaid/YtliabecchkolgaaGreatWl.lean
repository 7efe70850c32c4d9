/- The document's machine steps; how it begins. -/
import Derived.Test.YtliabecchkolgaaGreatWg
import Derived.Test.YtliabecchkolgaaGreatWh
import Derived.Test.YtliabecchkolgaaGreatWj
namespace Go.Proofs.YtliabecchkolgaaGreat
open Go Go.Abs Go.Proofs
set_option linter.unusedSimpArgs false
set_option linter.unusedVariables false
theorem rrun_pure {o : Obj} {s : Mach} (g : Good o s) (ok : ObjOk o) (hpl : (s.prints.length + 1) * 16 ≤ 140737488355328) (q : Nat) (hq : q < s.cores.length) : Pure Tryz.prog 33 [stAv o s, i64 q] (fun r => r = outAv o (runS o s q)) := by
  have hk : 1 ≤ ((o.cores.getD q default).code.getD (s.core q).pc.toNat default).kind ∧ ((o.cores.getD q default).code.getD (s.core q).pc.toNat default).kind ≤ 10 :=
    (instrOk_act (ok.ok q (by rw [← g.n]; exact hq) (s.core q).pc.toNat (by have := g.pc q hq; omega))).kind
  by_cases h : ((o.cores.getD q default).code.getD (s.core q).pc.toNat default).kind ≤ 4
  · exact rrun_lo g ok hpl q hq ⟨hk.1, h⟩
  · exact rrun_hi g ok hpl q hq ⟨by omega, hk.2⟩
theorem fit_outs (o : Obj) (x : Mach × DidS × Int) : fitA 0 (outAv o x) := by
  simp [outAv, fitA, fitL, fitL_map, CoreS.cells]
theorem rstep_pure {o : Obj} {s : Mach} (g : Good o s) (ok : ObjOk o) (hpl : (s.prints.length + 1) * 16 ≤ 140737488355328) (kind k : Int) : Pure Tryz.prog 11 [stAv o s, .agg [u8 kind, i64 k]] (fun r => r = outAv o (stepS o s kind k)) := by
  refine Go.pure Tryz.func11 nm11 low11 res11 nt11 rfl ?_
  by_cases ho : out s k
  · have ho2 : k < 0 ∨ (s.cores.length : Int) ≤ k := ho
    rw [stepS, runS, if_pos ho, drainS, if_pos ho]
    repeat' (first
    | ((with_reducible refine Go.red ?_); conv => whnf)
    | (with_reducible refine Go.and ?_ ?_)
    | (with_reducible exact True.intro)
    | (with_reducible refine Go.far ?_)
    | ((with_reducible refine Apt.mk ?_); (try dsimp only); omega)
    | ((with_reducible refine Ask.mk ?_); first | exact aAsk | exact aAsk2)
    | ((with_reducible refine Go.ari64 ?_ ?_ ?_); (· exact aBnd); (· exact aBnd))
    | ((with_reducible refine Go.ariu8 ?_ ?_ ?_); (· exact aBnd); (· exact aBnd))
    | (with_reducible refine Go.ari0 ?_)
    | (apply Go.elem; (· exact aElem))
    | (apply Go.row; (· exact aRow))
    | (apply Go.gives; (· exact aGives))
    | (apply Go.gives; (· exact aRes))
    | (with_reducible refine Go.unroll ?_)
    | (refine Go.gt rfl ?_)
    | (refine Go.gf rfl ?_)
    | (with_reducible refine Go.join ?_)
    | (refine Go.lt' rfl ?_)
    | (refine Go.lf' rfl ?_)
    | ((with_reducible refine Go.bool ?_ ?_) <;> intro hc <;> (try simp only [List.length_map, ne_eq, hcs] at hc) <;> try (exfalso; omega))
    | ((with_reducible refine Res.eq ?_ ?_); (· exact aFit)))
    · show AV.tup [AV.agg (List.map (Abs.frz _ 4) _), AV.agg (List.map (Abs.frz _ 4) _), _] = _
      rw [frz_same 4 (by simp [fitL, fitA, fitL_map, CoreS.cells]), frz_same 4 (by simp [fitL, fitA])]
      rw [if_neg hc.1, if_neg hc.2]; rfl
    · show AV.tup [AV.agg (List.map (Abs.frz _ 4) _), AV.agg (List.map (Abs.frz _ 4) _), _] = _
      rw [frz_same 4 (by simp [fitL, fitA, fitL_map, CoreS.cells]), frz_same 4 (by simp [fitL, fitA])]
      have h12 : kind = 1 ∨ kind = 2 := by assumption
      rcases h12 with rfl | rfl <;> rfl
  · have ho2 : 0 ≤ k ∧ k < (s.cores.length : Int) := by unfold out at ho; omega
    obtain ⟨q, rfl⟩ : ∃ q : Nat, k = (q : Int) := ⟨k.toNat, by omega⟩
    have hq : q < s.cores.length := by omega
    clear ho
    rw [stepS]
    repeat' (first
    | ((with_reducible refine Go.red ?_); conv => whnf)
    | (with_reducible refine Go.and ?_ ?_)
    | (with_reducible exact True.intro)
    | (with_reducible refine Go.far ?_)
    | ((with_reducible refine Apt.mk ?_); (try dsimp only); omega)
    | ((with_reducible refine Ask.mk ?_); first | exact aAsk | exact aAsk2)
    | ((with_reducible refine Go.ari64 ?_ ?_ ?_); (· exact aBnd); (· exact aBnd))
    | ((with_reducible refine Go.ariu8 ?_ ?_ ?_); (· exact aBnd); (· exact aBnd))
    | (with_reducible refine Go.ari0 ?_)
    | (apply Go.elem; (· exact aElem))
    | (apply Go.row; (· exact aRow))
    | (apply Go.gives; (· exact aGives))
    | (apply Go.gives; (· exact aRes))
    | (with_reducible refine Go.unroll ?_)
    | ((with_reducible refine Go.callW (rrun_pure g ok hpl q hq) ?_ ?_); (· exact aFit))
    | ((with_reducible refine Go.callJ (fun _ => rrun_pure g ok hpl q hq) ?_ ?_); (· exact aFit))
    | ((with_reducible refine Go.callE (rrun_pure g ok hpl q hq) ?_ ?_); (· exact aFit))
    | ((with_reducible refine Go.callF (fun _ => rrun_pure g ok hpl q hq) ?_ ?_); (· exact aFit))
    | ((with_reducible refine Go.callW (rdrain_pure g ok hpl q hq) ?_ ?_); (· exact aFit))
    | ((with_reducible refine Go.callJ (fun _ => rdrain_pure g ok hpl q hq) ?_ ?_); (· exact aFit))
    | ((with_reducible refine Go.callE (rdrain_pure g ok hpl q hq) ?_ ?_); (· exact aFit))
    | ((with_reducible refine Go.callF (fun _ => rdrain_pure g ok hpl q hq) ?_ ?_); (· exact aFit))
    | (refine Go.gt rfl ?_)
    | (refine Go.gf rfl ?_)
    | (with_reducible refine Go.join ?_)
    | (refine Go.lt' rfl ?_)
    | (refine Go.lf' rfl ?_)
    | ((with_reducible refine Go.bool ?_ ?_) <;> intro hc <;> (try simp only [List.length_map, ne_eq, hcs] at hc) <;> try (exfalso; omega))
    | ((with_reducible refine Res.eq ?_ ?_); (· exact aFit)))
    · show AV.tup [AV.agg (List.map (Abs.frz _ 4) _), AV.agg (List.map (Abs.frz _ 4) _), _] = _
      rw [frz_same 4 (by simp [fitL, fitA, fitL_map, CoreS.cells]), frz_same 4 (by simp [fitL, fitA])]
      rw [if_neg hc.1, if_neg hc.2]; rfl
    · show AV.tup [AV.agg (List.map (Abs.frz _ 4) _), AV.agg (List.map (Abs.frz _ 4) _), _] = _
      rw [frz_same 4 (by simp [fitL, fitA, fitL_map, CoreS.cells]), frz_same 4 (by simp [fitL, fitA])]
      rw [if_pos hc]
    · show AV.tup [AV.agg (List.map (Abs.frz _ 4) _), AV.agg (List.map (Abs.frz _ 4) _), _] = _
      rw [frz_same 4 (by simp [fitL, fitA, fitL_map, CoreS.cells]), frz_same 4 (by simp [fitL, fitA])]
      have h12 : kind = 1 ∨ kind = 2 := by assumption
      rw [if_neg hc, if_pos (by omega)]
theorem pure_weak {P : Program} {f : FuncId} {args : List AV} {a b : AV} (h : Pure P f args (fun r => r = a)) (hf : fitA 0 b) (hle : ∀ c, AVle c c a b) : Pure P f args (fun r => r = b) :=
  ⟨h.1, fun M w vs hM hv => (h.2 M w vs hM hv).mono fun _ _ ⟨v, r, he, hR, hf0, hvr, hb⟩ => ⟨v, b, he, rfl, hf, hle _ v (by rw [← hR]; exact hvr), hb⟩⟩
theorem AVle.imL {c : Cx} {sz : Nat} {d : AV} {es es2 : List AV} (h : AVles c c es es2) : AVle c c (.im sz d es) (.im sz d es2) := by
  intro v hv
  have hl := h.length
  rw [VR] at hv ⊢
  obtain ⟨a, cap, h1, h2, h3⟩ := hv
  refine ⟨a, cap, by rw [← hl]; exact h1, by rw [← hl]; exact h2, ?_⟩
  rcases h3 with h3 | ⟨blk, o, g1, g2, g3, g4⟩
  · left
    subst h3
    exact List.eq_nil_of_length_eq_zero hl.symm
  · exact .inr ⟨blk, o, g1, g2, g3, h.row rfl g4⟩
def rnew0 (o : Obj) : AV := .agg [.im 1 .any (o.mem.map i64), i64 o.shared, i64 o.locks, i64 o.buffer, .im 2 .any (o.cores.map Core.av), .im 19 .any (List.replicate o.cores.length zcore), .im 1 .any (o.mem.map i64), .sc (.slice none 0 0)]
theorem rnew_frz {o : Obj} {H : Hp} {d1 d2 : AV} {es1 es2 : List AV} {b1 b2 n k : Nat} (h1 : getH H b1 = some (.row 81 19 d1 es1)) (e1 : es1 = List.replicate o.cores.length zcore) (l1 : o.cores.length = n) (h2 : getH H b2 = some (.row 2 1 d2 es2)) (e2 : es2 = o.mem.map i64) (l2 : o.mem.length = k) :
    AV.agg (List.map (Abs.frz H 5) [.im 1 .any (o.mem.map i64), i64 o.shared, i64 o.locks, i64 o.buffer, .im 2 .any (o.cores.map Core.av), .sl b1 n, .sl b2 k, .sc (.slice none 0 0)]) = rnew0 o := by
  subst e1 e2
  have hz : fitL 0 (List.replicate o.cores.length zcore) := by rw [fitL_iff]; intro x hx; rw [(List.mem_replicate.1 hx).2]; simp [zcore, CoreS.cells, fitA, fitL]
  simp only [List.map_cons, List.map_nil, frz_sl (k := 4) (len := n) h1 (by simp [l1]), frz_sl (k := 4) (len := k) h2 (by simp [l2]), frz_sc]
  rw [frz_same 4 hz, frz_same 4 (by simp [fitL_map, fitA])]
  rw [frz_fit 5 (by simp [fitA, fitL, fitL_map]), frz_fit 5 (by simp [fitA, fitL, fitL_map])]
  rfl
@[simp] theorem fit_rnew (o : Obj) : fitA 0 (rnew0 o) := by
  have hz : fitL 0 (List.replicate o.cores.length zcore) := by rw [fitL_iff]; intro x hx; rw [(List.mem_replicate.1 hx).2]; simp [zcore, CoreS.cells, fitA, fitL]
  simp [rnew0, fitA, fitL, fitL_map, hz]
theorem rnew_raw (o : Obj) (ho : o.Wf) (h8 : o.cores.length ≤ 8) (hm : o.mem.length ≤ 4096) : Pure Tryz.prog 9 [o.av] (fun r => r = rnew0 o) := by
  refine Go.pure Tryz.func9 nm9 low9 res9 nt9 rfl ?_
  repeat' (first
    | ((with_reducible refine Go.red ?_); conv => whnf)
    | (with_reducible refine Go.and ?_ ?_)
    | (with_reducible exact True.intro)
    | (with_reducible refine Go.far ?_)
    | ((with_reducible refine Apt.mk ?_); (try dsimp only); omega)
    | ((with_reducible refine Ask.mk ?_); first | exact aAsk | exact aAsk2)
    | ((with_reducible refine Go.ari64 ?_ ?_ ?_); (· exact aBnd); (· exact aBnd))
    | ((with_reducible refine Go.ariu8 ?_ ?_ ?_); (· exact aBnd); (· exact aBnd))
    | (with_reducible refine Go.ari0 ?_)
    | (apply Go.elem; (· exact aElem))
    | (apply Go.row; (· exact aRow))
    | (apply Go.gives; (· exact aGives))
    | (apply Go.gives; (· exact aRes))
    | (with_reducible refine Go.unroll ?_)
    | (refine Go.gt rfl ?_)
    | (refine Go.gf rfl ?_)
    | (with_reducible refine Go.join ?_)
    | (refine Go.lt' rfl ?_)
    | (refine Go.lf' rfl ?_)
    | ((with_reducible refine Go.bool ?_ ?_) <;> intro hc <;> (try simp only [List.length_map, ne_eq, hcs] at hc) <;> try (exfalso; omega))
    | ((with_reducible refine Res.eq ?_ ?_); (· exact aFit)))
  exact rnew_frz (o := o) aRow (by simp only [Int.toNat_natCast, List.length_map]; rfl) (by simp) aRow rfl (by simp)
theorem rnew_pure (o : Obj) (ho : o.Wf) (h8 : o.cores.length ≤ 8) (hm : o.mem.length ≤ 4096) : Pure Tryz.prog 9 [o.av] (fun r => r = stAv o (initM o)) := by
  refine pure_weak (rnew_raw o ho h8 hm) (fit_st 0 o _) fun c => AVle.agg ?_
  refine .cons (fun _ h => h) (.cons (fun _ h => h) (.cons (fun _ h => h) (.cons (fun _ h => h) (.cons (fun _ h => h) (.cons (AVle.imL ?_) (.cons (fun _ h => h) (.cons (AVle.nilIm _ _ _ _) .nil)))))))
  show AVles c c _ ((List.replicate o.cores.length core0).map CoreS.frozen)
  rw [List.map_replicate]
  generalize o.cores.length = n
  induction n with
  | zero => exact .nil
  | succ n ih =>
    refine .cons (AVle.agg ?_) ih
    simp only [CoreS.cells]
    repeat (first | exact .nil | refine .cons (fun _ h => h) ?_ | refine .cons (AVle.nilIm _ _ _ _) ?_)
end Go.Proofs.YtliabecchkolgaaGreat
