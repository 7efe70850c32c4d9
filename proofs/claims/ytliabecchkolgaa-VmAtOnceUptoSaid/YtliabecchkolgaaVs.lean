/- A machine that is looked at alone. -/
import Derived.Test.YtliabecchkolgaaVra
namespace Go.Proofs.Ytliabecchkolgaa
open Go Go.Abs Go.Proofs
set_option linter.unusedSimpArgs false
set_option linter.unusedVariables false
abbrev CoreS.frozen (c : CoreS) : AV := .agg (c.cells (.im 3 .any (c.buf.map StoreS.av)))
def Mach.frozen (o : Obj) (s : Mach) : AV := .ip 8 .any [.agg [.sc (.slice none 0 0), i64 o.shared, i64 o.locks, i64 o.buffer, .im 2 .any (o.cores.map Core.av), .im 19 .any (s.cores.map CoreS.frozen), .im 1 .any (s.mem.map i64), .im 2 .any (s.prints.map PrintS.av)]] 0 0
theorem frz_at {H : Hp} {k b len i off : Nat} {e : TypeId} {sz : Nat} {d : AV} {es : List AV} (h : getH H b = some (.row e sz d es)) (hl : es.length = len) : frz H (k + 1) (.pt b len i off) = .ip sz .any (es.map (frz H k)) i off := by
  simp only [frz, h]; rw [if_pos hl]
theorem frz_sl {H : Hp} {k b len : Nat} {e : TypeId} {sz : Nat} {d : AV} {es : List AV} (h : getH H b = some (.row e sz d es)) (hl : es.length = len) : frz H (k + 1) (.sl b len) = .im sz .any (es.map (frz H k)) := by
  simp only [frz, h]; rw [if_pos hl]
theorem frz_same {H : Hp} (k : Nat) {es : List AV} (h : fitL 0 es) : es.map (frz H k) = es := map_same fun a ha => frz_fit k (fitL_mem h a ha)
theorem MAt.frz {o : Obj} {s : Mach} {L : Lay} {H : Hp} {nx : Nat} (h : MAt o s L H nx) : frz H 6 (.pt L.m 1 0 0) = s.frozen o := by
  obtain ⟨d1, h1⟩ := h.m
  obtain ⟨d2, h2⟩ := h.c
  obtain ⟨d3, h3⟩ := h.mem
  obtain ⟨d4, h4⟩ := h.pr
  have hcores : (rows s L).map (Abs.frz H 3) = s.cores.map CoreS.frozen := by
    apply List.ext_getElem
    · simp [rows, h.lens]
    · intro i p1 p2
      have hi : i < s.cores.length := by simpa using p2
      have hib : i < L.bufs.length := by rw [h.lens]; exact hi
      obtain ⟨d5, h5⟩ := h.bufs i hi
      have e1 : L.bufs.getD i 0 = L.bufs[i] := by simp [List.getD, hib]
      have e2 : s.cores.getD i default = s.cores[i] := by simp [List.getD, hi]
      rw [e1, e2] at h5
      simp only [List.getElem_map, rows, List.getElem_zipWith, CoreS.av, Abs.frz, CoreS.cells, List.map_cons, List.map_nil, frz_sc, h5]
      rw [if_pos (by simp), frz_same 1 (by simp [fitL_map, fitA, fitL])]
      rfl
  rw [frz_at (len := 1) h1 (by rfl), Mach.frozen]
  simp only [List.map_cons, List.map_nil, Abs.frz, frz_sc, h2, h3, h4]
  rw [if_pos (rows_len h), if_pos (by simp), if_pos (by simp), hcores, frz_same 3 (by simp [fitL_map, fitA]), frz_same 3 (by simp [fitL_map, fitA, fitL])]
theorem fit_frozen (o : Obj) (s : Mach) : fitA 0 (s.frozen o) := by
  simp [Mach.frozen, fitA, fitL, fitL_map, CoreS.cells]
theorem cores_pure (o : Obj) (s : Mach) : Pure Try.prog 15 [s.frozen o] (fun r => r = i64 s.cores.length) := by
  refine Go.pure Try.func15 nm15 low15 res15 nt15 rfl ?_
  repeat' (first
    | ((with_reducible refine Go.red ?_); conv => whnf)
    | (with_reducible refine Go.and ?_ ?_)
    | (with_reducible exact True.intro)
    | (with_reducible refine Go.far ?_)
    | ((with_reducible refine Apt.mk ?_); (try dsimp only); omega)
    | ((with_reducible refine Ask.mk ?_); first | exact aAsk | exact aAsk2)
    | ((with_reducible refine Go.ari64 ?_ ?_ ?_); (· exact aBnd); (· exact aBnd))
    | ((with_reducible refine Go.ariu8 ?_ ?_ ?_); (· exact aBnd); (· exact aBnd))
    | (with_reducible refine Go.ari0 ?_)
    | (apply Go.elem; (· exact aElem))
    | (apply Go.row; (· exact aRow))
    | (apply Go.gives; (· exact aGives))
    | (apply Go.gives; (· exact aRes))
    | (with_reducible refine Go.unroll ?_)
    | (refine Go.gt rfl ?_)
    | (refine Go.gf rfl ?_)
    | (with_reducible refine Go.join ?_)
    | (refine Go.lt' rfl ?_)
    | (refine Go.lf' rfl ?_)
    | ((with_reducible refine Go.bool ?_ ?_) <;> intro hc <;> (try simp only [List.length_map, ne_eq, hcs] at hc) <;> try (exfalso; omega))
    | ((with_reducible refine Res.eq ?_ ?_); (· exact aFit)))
  rw [List.length_map]
end Go.Proofs.Ytliabecchkolgaa
