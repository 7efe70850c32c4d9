/- A core looked at. -/
import Derived.Test.YtliabecchkolgaaVs
import Derived.Test.YtliabecchkolgaaVw
namespace Go.Proofs.Ytliabecchkolgaa
open Go Go.Abs Go.Proofs
set_option linter.unusedSimpArgs false
set_option linter.unusedVariables false
def Viewed (c : CoreS) (H : Hp) (nx : Nat) : AV → Hp → Nat → Prop := fun r H' n => ∃ b d, r = .tup [c.av b, i64 0] ∧ nx ≤ b ∧ b < n ∧ nx ≤ n ∧ getH H' b = some (.row 51 3 d (c.buf.map StoreS.av)) ∧ ∀ x, x < nx → getH H' x = getH H x
theorem view_in {o : Obj} {s : Mach} {L : Lay} {H : Hp} {nx : Nat} (h : MAt o s L H nx) {q : Nat} (hq : q < s.cores.length) (hbl : (s.core q).buf.length < 1000) : CallN Try.prog 20 [.pt L.m 1 0 0, i64 q] H nx (Viewed (s.core q) H nx) := by
  refine Go.fn Try.func20 nm20 low20 res20 nt20 rfl ?_
  have hk : ¬ out s q := by unfold out; omega
  have he : hasE s q = 0 := by rw [hasE, if_neg hk]
  obtain ⟨dm, rm⟩ := h.m
  obtain ⟨dc, rc⟩ := h.c
  obtain ⟨db, rb⟩ := h.bufs q hq
  have hel := rows_len h
  have hei := rows_at h hq
  obtain ⟨l1, l2, l3, l4, l5⟩ := h.lts hq
  obtain ⟨a1, a2, a3, a4, a5, a6, a7, a8, a9, a10⟩ := h.apart hq
  repeat' (first
    | ((with_reducible refine Go.red ?_); conv => whnf)
    | (with_reducible refine Go.and ?_ ?_)
    | (with_reducible exact True.intro)
    | (with_reducible refine Go.far ?_)
    | ((with_reducible refine Apt.mk ?_); (try dsimp only); omega)
    | ((with_reducible refine Ask.mk ?_); first | exact aAsk | exact aAsk2)
    | ((with_reducible refine Go.ari64 ?_ ?_ ?_); (· exact aBnd); (· exact aBnd))
    | ((with_reducible refine Go.ariu8 ?_ ?_ ?_); (· exact aBnd); (· exact aBnd))
    | (with_reducible refine Go.ari0 ?_)
    | (apply Go.elem; (· (first | exact hei _ | exact aElem)))
    | (apply Go.row; (· exact aRow))
    | (apply Go.gives; (· exact aGives))
    | (apply Go.gives; (· exact aRes))
    | (with_reducible refine Go.unroll ?_)
    | (with_reducible refine Go.drawn ?_)
    | ((refine Go.lookW (he ▸ has_call (h.keep aKeep aNx) q) ?_ ?_); (· exact True.intro))
    | ((refine Go.lookJ (fun _ => he ▸ has_call (h.keep aKeep aNx) q) ?_ ?_); (· exact True.intro))
    | (refine Go.gt rfl ?_)
    | (refine Go.gf rfl ?_)
    | (with_reducible refine Go.join ?_)
    | (refine Go.lt' rfl ?_)
    | (refine Go.lf' rfl ?_)
    | ((with_reducible refine Go.bool ?_ ?_) <;> intro hc <;> (try simp only [List.length_map, ne_eq, hcs] at hc) <;> try (exfalso; omega))
    | ((with_reducible refine Res.eq ?_ ?_); (· exact aFit)))
  refine Go.freshE (es := (s.core q).buf.map StoreS.av) [L.bufs.getD q 0] .any (clone_stores_mk (by rw [List.length_map]; omega)) (fun i hi => by rw [getD_av _ _ _ _ (by simpa using hi)]; trivial) (fun H1 h1 => by
    have e1 : getH H1 (L.bufs.getD q 0) = some (.row 51 3 db ((s.core q).buf.map StoreS.av)) := (h1 _ (by simp)).trans aRow
    show [Abs.frz H1 6 (.sl (L.bufs.getD q 0) (s.core q).buf.length)] = _
    rw [frz_sl e1 (by simp), frz_same 5 (by simp [fitL_map, fitA, fitL])]) (by simp [fitL, fitA, fitL_map]) ?_
  repeat' (first
    | ((with_reducible refine Go.red ?_); conv => whnf)
    | (with_reducible refine Go.and ?_ ?_)
    | (with_reducible exact True.intro)
    | (with_reducible refine Go.far ?_)
    | ((with_reducible refine Apt.mk ?_); (try dsimp only); omega)
    | ((with_reducible refine Ask.mk ?_); first | exact aAsk | exact aAsk2)
    | ((with_reducible refine Go.ari64 ?_ ?_ ?_); (· exact aBnd); (· exact aBnd))
    | ((with_reducible refine Go.ariu8 ?_ ?_ ?_); (· exact aBnd); (· exact aBnd))
    | (with_reducible refine Go.ari0 ?_)
    | (apply Go.elem; (· exact aElem))
    | (apply Go.row; (· exact aRow))
    | (apply Go.gives; (· exact aGives))
    | (apply Go.gives; (· exact aRes))
    | (with_reducible refine Go.unroll ?_)
    | (with_reducible refine Go.drawn ?_)
    | (refine Go.gt rfl ?_)
    | (refine Go.gf rfl ?_)
    | (with_reducible refine Go.join ?_)
    | (refine Go.lt' rfl ?_)
    | (refine Go.lf' rfl ?_)
    | ((with_reducible refine Go.bool ?_ ?_) <;> intro hc <;> (try simp only [List.length_map, ne_eq, hcs] at hc) <;> try (exfalso; omega))
    | ((with_reducible refine Res.eq ?_ ?_); (· exact aFit)))
  exact ⟨nx + 24, _, (by rw [List.length_map]; rfl), aNx, aNx, aNx, aRow, aKeep⟩
end Go.Proofs.Ytliabecchkolgaa
