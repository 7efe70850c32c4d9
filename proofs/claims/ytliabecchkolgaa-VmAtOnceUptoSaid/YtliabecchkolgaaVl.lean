/- Lists cloned. -/
import Derived.Test.YtliabecchkolgaaVk
import Derived.Test.YtliabecchkolgaaAbsX
namespace Go.Proofs.Ytliabecchkolgaa
open Go Go.Abs Go.Proofs
set_option linter.unusedSimpArgs false
set_option linter.unusedVariables false
def Cloned (H : Hp) (nx : Nat) (e : TypeId) (sz : Nat) (es : List AV) : AV → Hp → Nat → Prop := fun r H' n => ∃ b' d', r = .sl b' es.length ∧ nx ≤ b' ∧ b' < n ∧ nx ≤ n ∧ getH H' b' = some (.row e sz d' es) ∧ ∀ b, b < nx → getH H' b = getH H b
theorem Cloned.of {P : Program} {f : FuncId} {args : List AV} {H : Hp} {nx : Nat} {e : TypeId} {sz : Nat} {es : List AV} (hsz : 0 < sz) (h : CallN P f args H nx (fun r H' n => (r = .sc (.slice none 0 0) ∧ es = [] ∧ nx ≤ n ∧ ∀ b, b < nx → getH H' b = getH H b) ∨ Cloned H nx e sz es r H' n)) : CallN P f args H nx (Cloned H nx e sz es) := by
  refine h.wk ?_
  rintro r H' n (⟨rfl, rfl, h1, h2⟩ | h1)
  · refine ⟨_, _, _, Wk.nil (nx := n) e sz .any hsz, n, .any, rfl, h1, Nat.lt_succ_self _, by omega, getH_here _ _ _, fun b hb => ?_⟩
    rw [getH_skipEq (by omega)]; exact h2 b hb
  · exact ⟨r, H', n, Wk.refl _ _ _, h1⟩
theorem clone_words {H : Hp} {nx b n : Nat} {d : AV} {es : List AV} (hb : getH H b = some (.row 2 1 d es)) (hlt : b < nx) (hsz : es.length * 8 ≤ 140737488355328) (hn : es.length = n) : CallN Try.prog 39 [.sl b n] H nx (Cloned H nx 2 1 es) := by
  subst hn
  refine Cloned.of (by omega) ?_
  refine Go.fn Try.func39 nm39 low39 res39 nt39 rfl ?_
  cases hes : es with
  | nil =>
    rw [hes] at hb hsz
    repeat' (first
        | ((with_reducible refine Go.red ?_); conv => whnf)
        | (with_reducible refine Go.and ?_ ?_)
        | (with_reducible exact True.intro)
        | (with_reducible refine Go.far ?_)
        | ((with_reducible refine Apt.mk ?_); (try dsimp only); omega)
        | ((with_reducible refine Ask.mk ?_); first | exact aAsk | exact aAsk2)
        | ((with_reducible refine Go.ari64 ?_ ?_ ?_); (· exact aBnd); (· exact aBnd))
        | ((with_reducible refine Go.ariu8 ?_ ?_ ?_); (· exact aBnd); (· exact aBnd))
        | (with_reducible refine Go.ari0 ?_)
        | (apply Go.elem; (· exact aElem))
        | (apply Go.row; (· exact aRow))
        | (apply Go.gives; (· exact aGives))
        | (apply Go.gives; (· exact aRes))
        | (with_reducible refine Go.unroll ?_)
        | (refine Go.gt rfl ?_)
        | (refine Go.gf rfl ?_)
        | (with_reducible refine Go.join ?_)
        | (refine Go.lt' rfl ?_)
        | (refine Go.lf' rfl ?_)
        | ((with_reducible refine Go.bool ?_ ?_) <;> intro hc <;> (try simp only [List.length_map, ne_eq, hcs] at hc) <;> try (exfalso; omega))
        | ((with_reducible refine Res.eq ?_ ?_); (· exact aFit)))
    · exact ⟨.inl ⟨rfl, rfl, aNx, aKeep⟩⟩
    · exact ⟨.inr ⟨_, _, rfl, aNx, aNx, aNx, aRow, aKeep⟩⟩
  | cons x t =>
    rw [hes] at hb hsz
    simp only [List.length_cons] at hsz
    repeat' (first
        | ((with_reducible refine Go.red ?_); conv => whnf)
        | (with_reducible refine Go.and ?_ ?_)
        | (with_reducible exact True.intro)
        | (with_reducible refine Go.far ?_)
        | ((with_reducible refine Apt.mk ?_); (try dsimp only); omega)
        | ((with_reducible refine Ask.mk ?_); first | exact aAsk | exact aAsk2)
        | ((with_reducible refine Go.ari64 ?_ ?_ ?_); (· exact aBnd); (· exact aBnd))
        | ((with_reducible refine Go.ariu8 ?_ ?_ ?_); (· exact aBnd); (· exact aBnd))
        | (with_reducible refine Go.ari0 ?_)
        | (apply Go.elem; (· exact aElem))
        | (apply Go.row; (· exact aRow))
        | (apply Go.gives; (· exact aGives))
        | (apply Go.gives; (· exact aRes))
        | (with_reducible refine Go.unroll ?_)
        | (refine Go.gt rfl ?_)
        | (refine Go.gf rfl ?_)
        | (with_reducible refine Go.join ?_)
        | (refine Go.lt' rfl ?_)
        | (refine Go.lf' rfl ?_)
        | ((with_reducible refine Go.bool ?_ ?_) <;> intro hc <;> (try simp only [List.length_map, ne_eq, hcs] at hc) <;> try (exfalso; omega))
        | ((with_reducible refine Res.eq ?_ ?_); (· exact aFit)))
    · exact ⟨.inr ⟨nx + 3, _, (by rw [Nat.zero_add]), aNx, aNx, aNx, aRow, aKeep⟩⟩
theorem clone_stores {H : Hp} {nx b n : Nat} {d : AV} {es : List AV} (hb : getH H b = some (.row 51 3 d es)) (hlt : b < nx) (hsz : es.length * 24 ≤ 140737488355328) (hn : es.length = n) : CallN Try.prog 40 [.sl b n] H nx (Cloned H nx 51 3 es) := by
  subst hn
  refine Cloned.of (by omega) ?_
  refine Go.fn Try.func40 nm40 low40 res40 nt40 rfl ?_
  cases hes : es with
  | nil =>
    rw [hes] at hb hsz
    repeat' (first
        | ((with_reducible refine Go.red ?_); conv => whnf)
        | (with_reducible refine Go.and ?_ ?_)
        | (with_reducible exact True.intro)
        | (with_reducible refine Go.far ?_)
        | ((with_reducible refine Apt.mk ?_); (try dsimp only); omega)
        | ((with_reducible refine Ask.mk ?_); first | exact aAsk | exact aAsk2)
        | ((with_reducible refine Go.ari64 ?_ ?_ ?_); (· exact aBnd); (· exact aBnd))
        | ((with_reducible refine Go.ariu8 ?_ ?_ ?_); (· exact aBnd); (· exact aBnd))
        | (with_reducible refine Go.ari0 ?_)
        | (apply Go.elem; (· exact aElem))
        | (apply Go.row; (· exact aRow))
        | (apply Go.gives; (· exact aGives))
        | (apply Go.gives; (· exact aRes))
        | (with_reducible refine Go.unroll ?_)
        | (refine Go.gt rfl ?_)
        | (refine Go.gf rfl ?_)
        | (with_reducible refine Go.join ?_)
        | (refine Go.lt' rfl ?_)
        | (refine Go.lf' rfl ?_)
        | ((with_reducible refine Go.bool ?_ ?_) <;> intro hc <;> (try simp only [List.length_map, ne_eq, hcs] at hc) <;> try (exfalso; omega))
        | ((with_reducible refine Res.eq ?_ ?_); (· exact aFit)))
    · exact ⟨.inl ⟨rfl, rfl, aNx, aKeep⟩⟩
    · exact ⟨.inr ⟨_, _, rfl, aNx, aNx, aNx, aRow, aKeep⟩⟩
  | cons x t =>
    rw [hes] at hb hsz
    simp only [List.length_cons] at hsz
    repeat' (first
        | ((with_reducible refine Go.red ?_); conv => whnf)
        | (with_reducible refine Go.and ?_ ?_)
        | (with_reducible exact True.intro)
        | (with_reducible refine Go.far ?_)
        | ((with_reducible refine Apt.mk ?_); (try dsimp only); omega)
        | ((with_reducible refine Ask.mk ?_); first | exact aAsk | exact aAsk2)
        | ((with_reducible refine Go.ari64 ?_ ?_ ?_); (· exact aBnd); (· exact aBnd))
        | ((with_reducible refine Go.ariu8 ?_ ?_ ?_); (· exact aBnd); (· exact aBnd))
        | (with_reducible refine Go.ari0 ?_)
        | (apply Go.elem; (· exact aElem))
        | (apply Go.row; (· exact aRow))
        | (apply Go.gives; (· exact aGives))
        | (apply Go.gives; (· exact aRes))
        | (with_reducible refine Go.unroll ?_)
        | (refine Go.gt rfl ?_)
        | (refine Go.gf rfl ?_)
        | (with_reducible refine Go.join ?_)
        | (refine Go.lt' rfl ?_)
        | (refine Go.lf' rfl ?_)
        | ((with_reducible refine Go.bool ?_ ?_) <;> intro hc <;> (try simp only [List.length_map, ne_eq, hcs] at hc) <;> try (exfalso; omega))
        | ((with_reducible refine Res.eq ?_ ?_); (· exact aFit)))
    · exact ⟨.inr ⟨nx + 3, _, (by rw [Nat.zero_add]), aNx, aNx, aNx, aRow, aKeep⟩⟩
theorem clone_prints {H : Hp} {nx b n : Nat} {d : AV} {es : List AV} (hb : getH H b = some (.row 75 2 d es)) (hlt : b < nx) (hsz : es.length * 16 ≤ 140737488355328) (hn : es.length = n) : CallN Try.prog 46 [.sl b n] H nx (Cloned H nx 75 2 es) := by
  subst hn
  refine Cloned.of (by omega) ?_
  refine Go.fn Try.func46 nm46 low46 res46 nt46 rfl ?_
  cases hes : es with
  | nil =>
    rw [hes] at hb hsz
    repeat' (first
        | ((with_reducible refine Go.red ?_); conv => whnf)
        | (with_reducible refine Go.and ?_ ?_)
        | (with_reducible exact True.intro)
        | (with_reducible refine Go.far ?_)
        | ((with_reducible refine Apt.mk ?_); (try dsimp only); omega)
        | ((with_reducible refine Ask.mk ?_); first | exact aAsk | exact aAsk2)
        | ((with_reducible refine Go.ari64 ?_ ?_ ?_); (· exact aBnd); (· exact aBnd))
        | ((with_reducible refine Go.ariu8 ?_ ?_ ?_); (· exact aBnd); (· exact aBnd))
        | (with_reducible refine Go.ari0 ?_)
        | (apply Go.elem; (· exact aElem))
        | (apply Go.row; (· exact aRow))
        | (apply Go.gives; (· exact aGives))
        | (apply Go.gives; (· exact aRes))
        | (with_reducible refine Go.unroll ?_)
        | (refine Go.gt rfl ?_)
        | (refine Go.gf rfl ?_)
        | (with_reducible refine Go.join ?_)
        | (refine Go.lt' rfl ?_)
        | (refine Go.lf' rfl ?_)
        | ((with_reducible refine Go.bool ?_ ?_) <;> intro hc <;> (try simp only [List.length_map, ne_eq, hcs] at hc) <;> try (exfalso; omega))
        | ((with_reducible refine Res.eq ?_ ?_); (· exact aFit)))
    · exact ⟨.inl ⟨rfl, rfl, aNx, aKeep⟩⟩
    · exact ⟨.inr ⟨_, _, rfl, aNx, aNx, aNx, aRow, aKeep⟩⟩
  | cons x t =>
    rw [hes] at hb hsz
    simp only [List.length_cons] at hsz
    repeat' (first
        | ((with_reducible refine Go.red ?_); conv => whnf)
        | (with_reducible refine Go.and ?_ ?_)
        | (with_reducible exact True.intro)
        | (with_reducible refine Go.far ?_)
        | ((with_reducible refine Apt.mk ?_); (try dsimp only); omega)
        | ((with_reducible refine Ask.mk ?_); first | exact aAsk | exact aAsk2)
        | ((with_reducible refine Go.ari64 ?_ ?_ ?_); (· exact aBnd); (· exact aBnd))
        | ((with_reducible refine Go.ariu8 ?_ ?_ ?_); (· exact aBnd); (· exact aBnd))
        | (with_reducible refine Go.ari0 ?_)
        | (apply Go.elem; (· exact aElem))
        | (apply Go.row; (· exact aRow))
        | (apply Go.gives; (· exact aGives))
        | (apply Go.gives; (· exact aRes))
        | (with_reducible refine Go.unroll ?_)
        | (refine Go.gt rfl ?_)
        | (refine Go.gf rfl ?_)
        | (with_reducible refine Go.join ?_)
        | (refine Go.lt' rfl ?_)
        | (refine Go.lf' rfl ?_)
        | ((with_reducible refine Go.bool ?_ ?_) <;> intro hc <;> (try simp only [List.length_map, ne_eq, hcs] at hc) <;> try (exfalso; omega))
        | ((with_reducible refine Res.eq ?_ ?_); (· exact aFit)))
    · exact ⟨.inr ⟨nx + 3, _, (by rw [Nat.zero_add]), aNx, aNx, aNx, aRow, aKeep⟩⟩
theorem clone_cores {H : Hp} {nx b n : Nat} {d : AV} {es : List AV} (hb : getH H b = some (.row 98 19 d es)) (hlt : b < nx) (hsz : es.length * 168 ≤ 140737488355328) (hn : es.length = n) : CallN Try.prog 45 [.sl b n] H nx (Cloned H nx 98 19 es) := by
  subst hn
  refine Cloned.of (by omega) ?_
  refine Go.fn Try.func45 nm45 low45 res45 nt45 rfl ?_
  cases hes : es with
  | nil =>
    rw [hes] at hb hsz
    repeat' (first
        | ((with_reducible refine Go.red ?_); conv => whnf)
        | (with_reducible refine Go.and ?_ ?_)
        | (with_reducible exact True.intro)
        | (with_reducible refine Go.far ?_)
        | ((with_reducible refine Apt.mk ?_); (try dsimp only); omega)
        | ((with_reducible refine Ask.mk ?_); first | exact aAsk | exact aAsk2)
        | ((with_reducible refine Go.ari64 ?_ ?_ ?_); (· exact aBnd); (· exact aBnd))
        | ((with_reducible refine Go.ariu8 ?_ ?_ ?_); (· exact aBnd); (· exact aBnd))
        | (with_reducible refine Go.ari0 ?_)
        | (apply Go.elem; (· exact aElem))
        | (apply Go.row; (· exact aRow))
        | (apply Go.gives; (· exact aGives))
        | (apply Go.gives; (· exact aRes))
        | (with_reducible refine Go.unroll ?_)
        | (refine Go.gt rfl ?_)
        | (refine Go.gf rfl ?_)
        | (with_reducible refine Go.join ?_)
        | (refine Go.lt' rfl ?_)
        | (refine Go.lf' rfl ?_)
        | ((with_reducible refine Go.bool ?_ ?_) <;> intro hc <;> (try simp only [List.length_map, ne_eq, hcs] at hc) <;> try (exfalso; omega))
        | ((with_reducible refine Res.eq ?_ ?_); (· exact aFit)))
    · exact ⟨.inl ⟨rfl, rfl, aNx, aKeep⟩⟩
    · exact ⟨.inr ⟨_, _, rfl, aNx, aNx, aNx, aRow, aKeep⟩⟩
  | cons x t =>
    rw [hes] at hb hsz
    simp only [List.length_cons] at hsz
    repeat' (first
        | ((with_reducible refine Go.red ?_); conv => whnf)
        | (with_reducible refine Go.and ?_ ?_)
        | (with_reducible exact True.intro)
        | (with_reducible refine Go.far ?_)
        | ((with_reducible refine Apt.mk ?_); (try dsimp only); omega)
        | ((with_reducible refine Ask.mk ?_); first | exact aAsk | exact aAsk2)
        | ((with_reducible refine Go.ari64 ?_ ?_ ?_); (· exact aBnd); (· exact aBnd))
        | ((with_reducible refine Go.ariu8 ?_ ?_ ?_); (· exact aBnd); (· exact aBnd))
        | (with_reducible refine Go.ari0 ?_)
        | (apply Go.elem; (· exact aElem))
        | (apply Go.row; (· exact aRow))
        | (apply Go.gives; (· exact aGives))
        | (apply Go.gives; (· exact aRes))
        | (with_reducible refine Go.unroll ?_)
        | (refine Go.gt rfl ?_)
        | (refine Go.gf rfl ?_)
        | (with_reducible refine Go.join ?_)
        | (refine Go.lt' rfl ?_)
        | (refine Go.lf' rfl ?_)
        | ((with_reducible refine Go.bool ?_ ?_) <;> intro hc <;> (try simp only [List.length_map, ne_eq, hcs] at hc) <;> try (exfalso; omega))
        | ((with_reducible refine Res.eq ?_ ?_); (· exact aFit)))
    · exact ⟨.inr ⟨nx + 3, _, (by rw [Nat.zero_add]), aNx, aNx, aNx, aRow, aKeep⟩⟩
theorem cores_call {o : Obj} {s : Mach} {L : Lay} {H : Hp} {nx : Nat} (h : MAt o s L H nx) : Look Try.prog 15 [.pt L.m 1 0 0] H nx (i64 s.cores.length) := by
  refine Go.lookAt Try.func15 nm15 low15 res15 nt15 rfl ?_
  obtain ⟨dm, rm⟩ := h.m
  obtain ⟨dc, rc⟩ := h.c
  have hel := rows_len h
  repeat' (first
    | ((with_reducible refine Go.red ?_); conv => whnf)
    | (with_reducible refine Go.and ?_ ?_)
    | (with_reducible exact True.intro)
    | (with_reducible refine Go.far ?_)
    | ((with_reducible refine Apt.mk ?_); (try dsimp only); omega)
    | ((with_reducible refine Ask.mk ?_); first | exact aAsk | exact aAsk2)
    | ((with_reducible refine Go.ari64 ?_ ?_ ?_); (· exact aBnd); (· exact aBnd))
    | ((with_reducible refine Go.ariu8 ?_ ?_ ?_); (· exact aBnd); (· exact aBnd))
    | (with_reducible refine Go.ari0 ?_)
    | (apply Go.elem; (· exact aElem))
    | (apply Go.row; (· exact aRow))
    | (apply Go.gives; (· exact aGives))
    | (apply Go.gives; (· exact aRes))
    | (with_reducible refine Go.unroll ?_)
    | (refine Go.gt rfl ?_)
    | (refine Go.gf rfl ?_)
    | (with_reducible refine Go.join ?_)
    | (refine Go.lt' rfl ?_)
    | (refine Go.lf' rfl ?_)
    | ((with_reducible refine Go.bool ?_ ?_) <;> intro hc <;> (try simp only [List.length_map, ne_eq, hcs] at hc) <;> try (exfalso; omega))
    | ((with_reducible refine Res.eq ?_ ?_); (· exact aFit)))
  · exact ResN.look rfl aKeep
theorem memory_call {o : Obj} {s : Mach} {L : Lay} {H : Hp} {nx : Nat} (h : MAt o s L H nx) (hm : s.mem.length ≤ 4096) : CallN Try.prog 18 [.pt L.m 1 0 0] H nx (Cloned H nx 2 1 (s.mem.map i64)) := by
  refine Go.fn Try.func18 nm18 low18 res18 nt18 rfl ?_
  obtain ⟨dm, rm⟩ := h.m
  obtain ⟨dc, rc⟩ := h.mem
  have l1 := h.lt L.m (by simp [Lay.ids])
  have l2 := h.lt L.mem (by simp [Lay.ids])
  repeat' (first
    | ((with_reducible refine Go.red ?_); conv => whnf)
    | (with_reducible refine Go.and ?_ ?_)
    | (with_reducible exact True.intro)
    | (with_reducible refine Go.far ?_)
    | ((with_reducible refine Apt.mk ?_); (try dsimp only); omega)
    | ((with_reducible refine Ask.mk ?_); first | exact aAsk | exact aAsk2)
    | ((with_reducible refine Go.ari64 ?_ ?_ ?_); (· exact aBnd); (· exact aBnd))
    | ((with_reducible refine Go.ariu8 ?_ ?_ ?_); (· exact aBnd); (· exact aBnd))
    | (with_reducible refine Go.ari0 ?_)
    | (apply Go.elem; (· exact aElem))
    | (apply Go.row; (· exact aRow))
    | (apply Go.gives; (· exact aGives))
    | (apply Go.gives; (· exact aRes))
    | (with_reducible refine Go.unroll ?_)
    | (refine Go.gt rfl ?_)
    | (refine Go.gf rfl ?_)
    | (with_reducible refine Go.join ?_)
    | (refine Go.lt' rfl ?_)
    | (refine Go.lf' rfl ?_)
    | ((with_reducible refine Go.bool ?_ ?_) <;> intro hc <;> (try simp only [List.length_map, ne_eq, hcs] at hc) <;> try (exfalso; omega))
    | ((with_reducible refine Res.eq ?_ ?_); (· exact aFit)))
  refine Go.callN (clone_words (es := s.mem.map i64) aRow aNx (by rw [List.length_map]; omega) (by simp)) ?_
  rintro _ H2 n2 ⟨b', d', rfl, h1, h2, h3, h4, h5⟩
  have e1 : nx + 2 ≤ b' := Nat.le_trans aNx h1
  have e2 : nx + 2 ≤ n2 := Nat.le_trans aNx h3
  have e3 : ∀ b, b < nx → getH H2 b = getH H b := fun b hb => (h5 b aNx).trans (by repeat (first | exact rfl | (refine Eq.trans (getH_skipEq (by omega)) ?_)))
  clear h1 h3 h5
  repeat' (first
    | ((with_reducible refine Go.red ?_); conv => whnf)
    | (with_reducible refine Go.and ?_ ?_)
    | (with_reducible exact True.intro)
    | (with_reducible refine Go.far ?_)
    | ((with_reducible refine Apt.mk ?_); (try dsimp only); omega)
    | ((with_reducible refine Ask.mk ?_); first | exact aAsk | exact aAsk2)
    | ((with_reducible refine Go.ari64 ?_ ?_ ?_); (· exact aBnd); (· exact aBnd))
    | ((with_reducible refine Go.ariu8 ?_ ?_ ?_); (· exact aBnd); (· exact aBnd))
    | (with_reducible refine Go.ari0 ?_)
    | (apply Go.elem; (· exact aElem))
    | (apply Go.row; (· exact aRow))
    | (apply Go.gives; (· exact aGives))
    | (apply Go.gives; (· exact aRes))
    | (with_reducible refine Go.unroll ?_)
    | (refine Go.gt rfl ?_)
    | (refine Go.gf rfl ?_)
    | (with_reducible refine Go.join ?_)
    | (refine Go.lt' rfl ?_)
    | (refine Go.lf' rfl ?_)
    | ((with_reducible refine Go.bool ?_ ?_) <;> intro hc <;> (try simp only [List.length_map, ne_eq, hcs] at hc) <;> try (exfalso; omega))
    | ((with_reducible refine Res.eq ?_ ?_); (· exact aFit)))
  exact ⟨b', d', rfl, aNx, aNx, aNx, aRow, (by intro b hb; repeat (first | exact e3 b hb | (refine Eq.trans (getH_skipEq (by omega)) ?_)))⟩

theorem clone_words_im {es : List AV} (hsz : es.length * 8 ≤ 140737488355328) : CallN Try.prog 39 [.im 1 .any es] [] 0 (Cloned [] 0 2 1 es) := by
  refine Cloned.of (by omega) ?_
  refine Go.fn Try.func39 nm39 low39 res39 nt39 rfl ?_
  cases hes : es with
  | nil =>
    repeat' (first
        | ((with_reducible refine Go.red ?_); conv => whnf)
        | (with_reducible refine Go.and ?_ ?_)
        | (with_reducible exact True.intro)
        | (with_reducible refine Go.far ?_)
        | ((with_reducible refine Apt.mk ?_); (try dsimp only); omega)
        | ((with_reducible refine Ask.mk ?_); first | exact aAsk | exact aAsk2)
        | ((with_reducible refine Go.ari64 ?_ ?_ ?_); (· exact aBnd); (· exact aBnd))
        | ((with_reducible refine Go.ariu8 ?_ ?_ ?_); (· exact aBnd); (· exact aBnd))
        | (with_reducible refine Go.ari0 ?_)
        | (apply Go.elem; (· exact aElem))
        | (apply Go.row; (· exact aRow))
        | (apply Go.gives; (· exact aGives))
        | (apply Go.gives; (· exact aRes))
        | (with_reducible refine Go.unroll ?_)
        | (refine Go.gt rfl ?_)
        | (refine Go.gf rfl ?_)
        | (with_reducible refine Go.join ?_)
        | (refine Go.lt' rfl ?_)
        | (refine Go.lf' rfl ?_)
        | ((with_reducible refine Go.bool ?_ ?_) <;> intro hc <;> (try simp only [List.length_map, ne_eq, hcs] at hc) <;> try (exfalso; omega))
        | ((with_reducible refine Res.eq ?_ ?_); (· exact aFit)))
    · exact ⟨.inl ⟨rfl, rfl, aNx, aKeep⟩⟩
    · exact ⟨.inr ⟨_, _, rfl, aNx, aNx, aNx, aRow, aKeep⟩⟩
  | cons x t =>
    rw [hes] at hsz
    simp only [List.length_cons] at hsz
    repeat' (first
        | ((with_reducible refine Go.red ?_); conv => whnf)
        | (with_reducible refine Go.and ?_ ?_)
        | (with_reducible exact True.intro)
        | (with_reducible refine Go.far ?_)
        | ((with_reducible refine Apt.mk ?_); (try dsimp only); omega)
        | ((with_reducible refine Ask.mk ?_); first | exact aAsk | exact aAsk2)
        | ((with_reducible refine Go.ari64 ?_ ?_ ?_); (· exact aBnd); (· exact aBnd))
        | ((with_reducible refine Go.ariu8 ?_ ?_ ?_); (· exact aBnd); (· exact aBnd))
        | (with_reducible refine Go.ari0 ?_)
        | (apply Go.elem; (· exact aElem))
        | (apply Go.row; (· exact aRow))
        | (apply Go.gives; (· exact aGives))
        | (apply Go.gives; (· exact aRes))
        | (with_reducible refine Go.unroll ?_)
        | (refine Go.gt rfl ?_)
        | (refine Go.gf rfl ?_)
        | (with_reducible refine Go.join ?_)
        | (refine Go.lt' rfl ?_)
        | (refine Go.lf' rfl ?_)
        | ((with_reducible refine Go.bool ?_ ?_) <;> intro hc <;> (try simp only [List.length_map, ne_eq, hcs] at hc) <;> try (exfalso; omega))
        | ((with_reducible refine Res.eq ?_ ?_); (· exact aFit)))
    · exact ⟨.inr ⟨3, _, (by simp), aNx, aNx, aNx, aRow, aKeep⟩⟩
theorem clone_words_mk {es : List AV} (hsz : es.length * 8 ≤ 140737488355328) : CallN Try.prog 39 [.im 1 .any es] [] 0 (fun r1 H1 _ => ∃ b d0, r1 = .sl b es.length ∧ getH H1 b = some (.row 2 1 d0 es)) :=
  (clone_words_im hsz).mono fun r H n ⟨b, d, h1, _, _, _, h2, _⟩ => ⟨b, d, h1, h2⟩
theorem clone_words_pure {es : List AV} (hsz : es.length * 8 ≤ 140737488355328) (hf : fitL 0 es) : Pure Try.prog 39 [.im 1 .any es] (fun r => r = .im 1 .any es) := (clone_words_mk hsz).pureIm hf
theorem clone_stores_im {es : List AV} (hsz : es.length * 24 ≤ 140737488355328) : CallN Try.prog 40 [.im 3 .any es] [] 0 (Cloned [] 0 51 3 es) := by
  refine Cloned.of (by omega) ?_
  refine Go.fn Try.func40 nm40 low40 res40 nt40 rfl ?_
  cases hes : es with
  | nil =>
    repeat' (first
        | ((with_reducible refine Go.red ?_); conv => whnf)
        | (with_reducible refine Go.and ?_ ?_)
        | (with_reducible exact True.intro)
        | (with_reducible refine Go.far ?_)
        | ((with_reducible refine Apt.mk ?_); (try dsimp only); omega)
        | ((with_reducible refine Ask.mk ?_); first | exact aAsk | exact aAsk2)
        | ((with_reducible refine Go.ari64 ?_ ?_ ?_); (· exact aBnd); (· exact aBnd))
        | ((with_reducible refine Go.ariu8 ?_ ?_ ?_); (· exact aBnd); (· exact aBnd))
        | (with_reducible refine Go.ari0 ?_)
        | (apply Go.elem; (· exact aElem))
        | (apply Go.row; (· exact aRow))
        | (apply Go.gives; (· exact aGives))
        | (apply Go.gives; (· exact aRes))
        | (with_reducible refine Go.unroll ?_)
        | (refine Go.gt rfl ?_)
        | (refine Go.gf rfl ?_)
        | (with_reducible refine Go.join ?_)
        | (refine Go.lt' rfl ?_)
        | (refine Go.lf' rfl ?_)
        | ((with_reducible refine Go.bool ?_ ?_) <;> intro hc <;> (try simp only [List.length_map, ne_eq, hcs] at hc) <;> try (exfalso; omega))
        | ((with_reducible refine Res.eq ?_ ?_); (· exact aFit)))
    · exact ⟨.inl ⟨rfl, rfl, aNx, aKeep⟩⟩
    · exact ⟨.inr ⟨_, _, rfl, aNx, aNx, aNx, aRow, aKeep⟩⟩
  | cons x t =>
    rw [hes] at hsz
    simp only [List.length_cons] at hsz
    repeat' (first
        | ((with_reducible refine Go.red ?_); conv => whnf)
        | (with_reducible refine Go.and ?_ ?_)
        | (with_reducible exact True.intro)
        | (with_reducible refine Go.far ?_)
        | ((with_reducible refine Apt.mk ?_); (try dsimp only); omega)
        | ((with_reducible refine Ask.mk ?_); first | exact aAsk | exact aAsk2)
        | ((with_reducible refine Go.ari64 ?_ ?_ ?_); (· exact aBnd); (· exact aBnd))
        | ((with_reducible refine Go.ariu8 ?_ ?_ ?_); (· exact aBnd); (· exact aBnd))
        | (with_reducible refine Go.ari0 ?_)
        | (apply Go.elem; (· exact aElem))
        | (apply Go.row; (· exact aRow))
        | (apply Go.gives; (· exact aGives))
        | (apply Go.gives; (· exact aRes))
        | (with_reducible refine Go.unroll ?_)
        | (refine Go.gt rfl ?_)
        | (refine Go.gf rfl ?_)
        | (with_reducible refine Go.join ?_)
        | (refine Go.lt' rfl ?_)
        | (refine Go.lf' rfl ?_)
        | ((with_reducible refine Go.bool ?_ ?_) <;> intro hc <;> (try simp only [List.length_map, ne_eq, hcs] at hc) <;> try (exfalso; omega))
        | ((with_reducible refine Res.eq ?_ ?_); (· exact aFit)))
    · exact ⟨.inr ⟨3, _, (by simp), aNx, aNx, aNx, aRow, aKeep⟩⟩
theorem clone_stores_mk {es : List AV} (hsz : es.length * 24 ≤ 140737488355328) : CallN Try.prog 40 [.im 3 .any es] [] 0 (fun r1 H1 _ => ∃ b d0, r1 = .sl b es.length ∧ getH H1 b = some (.row 51 3 d0 es)) :=
  (clone_stores_im hsz).mono fun r H n ⟨b, d, h1, _, _, _, h2, _⟩ => ⟨b, d, h1, h2⟩
theorem clone_stores_pure {es : List AV} (hsz : es.length * 24 ≤ 140737488355328) (hf : fitL 0 es) : Pure Try.prog 40 [.im 3 .any es] (fun r => r = .im 3 .any es) := (clone_stores_mk hsz).pureIm hf
theorem clone_prints_im {es : List AV} (hsz : es.length * 16 ≤ 140737488355328) : CallN Try.prog 46 [.im 2 .any es] [] 0 (Cloned [] 0 75 2 es) := by
  refine Cloned.of (by omega) ?_
  refine Go.fn Try.func46 nm46 low46 res46 nt46 rfl ?_
  cases hes : es with
  | nil =>
    repeat' (first
        | ((with_reducible refine Go.red ?_); conv => whnf)
        | (with_reducible refine Go.and ?_ ?_)
        | (with_reducible exact True.intro)
        | (with_reducible refine Go.far ?_)
        | ((with_reducible refine Apt.mk ?_); (try dsimp only); omega)
        | ((with_reducible refine Ask.mk ?_); first | exact aAsk | exact aAsk2)
        | ((with_reducible refine Go.ari64 ?_ ?_ ?_); (· exact aBnd); (· exact aBnd))
        | ((with_reducible refine Go.ariu8 ?_ ?_ ?_); (· exact aBnd); (· exact aBnd))
        | (with_reducible refine Go.ari0 ?_)
        | (apply Go.elem; (· exact aElem))
        | (apply Go.row; (· exact aRow))
        | (apply Go.gives; (· exact aGives))
        | (apply Go.gives; (· exact aRes))
        | (with_reducible refine Go.unroll ?_)
        | (refine Go.gt rfl ?_)
        | (refine Go.gf rfl ?_)
        | (with_reducible refine Go.join ?_)
        | (refine Go.lt' rfl ?_)
        | (refine Go.lf' rfl ?_)
        | ((with_reducible refine Go.bool ?_ ?_) <;> intro hc <;> (try simp only [List.length_map, ne_eq, hcs] at hc) <;> try (exfalso; omega))
        | ((with_reducible refine Res.eq ?_ ?_); (· exact aFit)))
    · exact ⟨.inl ⟨rfl, rfl, aNx, aKeep⟩⟩
    · exact ⟨.inr ⟨_, _, rfl, aNx, aNx, aNx, aRow, aKeep⟩⟩
  | cons x t =>
    rw [hes] at hsz
    simp only [List.length_cons] at hsz
    repeat' (first
        | ((with_reducible refine Go.red ?_); conv => whnf)
        | (with_reducible refine Go.and ?_ ?_)
        | (with_reducible exact True.intro)
        | (with_reducible refine Go.far ?_)
        | ((with_reducible refine Apt.mk ?_); (try dsimp only); omega)
        | ((with_reducible refine Ask.mk ?_); first | exact aAsk | exact aAsk2)
        | ((with_reducible refine Go.ari64 ?_ ?_ ?_); (· exact aBnd); (· exact aBnd))
        | ((with_reducible refine Go.ariu8 ?_ ?_ ?_); (· exact aBnd); (· exact aBnd))
        | (with_reducible refine Go.ari0 ?_)
        | (apply Go.elem; (· exact aElem))
        | (apply Go.row; (· exact aRow))
        | (apply Go.gives; (· exact aGives))
        | (apply Go.gives; (· exact aRes))
        | (with_reducible refine Go.unroll ?_)
        | (refine Go.gt rfl ?_)
        | (refine Go.gf rfl ?_)
        | (with_reducible refine Go.join ?_)
        | (refine Go.lt' rfl ?_)
        | (refine Go.lf' rfl ?_)
        | ((with_reducible refine Go.bool ?_ ?_) <;> intro hc <;> (try simp only [List.length_map, ne_eq, hcs] at hc) <;> try (exfalso; omega))
        | ((with_reducible refine Res.eq ?_ ?_); (· exact aFit)))
    · exact ⟨.inr ⟨3, _, (by simp), aNx, aNx, aNx, aRow, aKeep⟩⟩
theorem clone_prints_mk {es : List AV} (hsz : es.length * 16 ≤ 140737488355328) : CallN Try.prog 46 [.im 2 .any es] [] 0 (fun r1 H1 _ => ∃ b d0, r1 = .sl b es.length ∧ getH H1 b = some (.row 75 2 d0 es)) :=
  (clone_prints_im hsz).mono fun r H n ⟨b, d, h1, _, _, _, h2, _⟩ => ⟨b, d, h1, h2⟩
theorem clone_prints_pure {es : List AV} (hsz : es.length * 16 ≤ 140737488355328) (hf : fitL 0 es) : Pure Try.prog 46 [.im 2 .any es] (fun r => r = .im 2 .any es) := (clone_prints_mk hsz).pureIm hf
theorem clone_code_im {es : List AV} (hsz : es.length * 64 ≤ 140737488355328) : CallN Try.prog 50 [.im 9 .any es] [] 0 (Cloned [] 0 85 9 es) := by
  refine Cloned.of (by omega) ?_
  refine Go.fn Try.func50 nm50 low50 res50 nt50 rfl ?_
  cases hes : es with
  | nil =>
    repeat' (first
        | ((with_reducible refine Go.red ?_); conv => whnf)
        | (with_reducible refine Go.and ?_ ?_)
        | (with_reducible exact True.intro)
        | (with_reducible refine Go.far ?_)
        | ((with_reducible refine Apt.mk ?_); (try dsimp only); omega)
        | ((with_reducible refine Ask.mk ?_); first | exact aAsk | exact aAsk2)
        | ((with_reducible refine Go.ari64 ?_ ?_ ?_); (· exact aBnd); (· exact aBnd))
        | ((with_reducible refine Go.ariu8 ?_ ?_ ?_); (· exact aBnd); (· exact aBnd))
        | (with_reducible refine Go.ari0 ?_)
        | (apply Go.elem; (· exact aElem))
        | (apply Go.row; (· exact aRow))
        | (apply Go.gives; (· exact aGives))
        | (apply Go.gives; (· exact aRes))
        | (with_reducible refine Go.unroll ?_)
        | (refine Go.gt rfl ?_)
        | (refine Go.gf rfl ?_)
        | (with_reducible refine Go.join ?_)
        | (refine Go.lt' rfl ?_)
        | (refine Go.lf' rfl ?_)
        | ((with_reducible refine Go.bool ?_ ?_) <;> intro hc <;> (try simp only [List.length_map, ne_eq, hcs] at hc) <;> try (exfalso; omega))
        | ((with_reducible refine Res.eq ?_ ?_); (· exact aFit)))
    · exact ⟨.inl ⟨rfl, rfl, aNx, aKeep⟩⟩
    · exact ⟨.inr ⟨_, _, rfl, aNx, aNx, aNx, aRow, aKeep⟩⟩
  | cons x t =>
    rw [hes] at hsz
    simp only [List.length_cons] at hsz
    repeat' (first
        | ((with_reducible refine Go.red ?_); conv => whnf)
        | (with_reducible refine Go.and ?_ ?_)
        | (with_reducible exact True.intro)
        | (with_reducible refine Go.far ?_)
        | ((with_reducible refine Apt.mk ?_); (try dsimp only); omega)
        | ((with_reducible refine Ask.mk ?_); first | exact aAsk | exact aAsk2)
        | ((with_reducible refine Go.ari64 ?_ ?_ ?_); (· exact aBnd); (· exact aBnd))
        | ((with_reducible refine Go.ariu8 ?_ ?_ ?_); (· exact aBnd); (· exact aBnd))
        | (with_reducible refine Go.ari0 ?_)
        | (apply Go.elem; (· exact aElem))
        | (apply Go.row; (· exact aRow))
        | (apply Go.gives; (· exact aGives))
        | (apply Go.gives; (· exact aRes))
        | (with_reducible refine Go.unroll ?_)
        | (refine Go.gt rfl ?_)
        | (refine Go.gf rfl ?_)
        | (with_reducible refine Go.join ?_)
        | (refine Go.lt' rfl ?_)
        | (refine Go.lf' rfl ?_)
        | ((with_reducible refine Go.bool ?_ ?_) <;> intro hc <;> (try simp only [List.length_map, ne_eq, hcs] at hc) <;> try (exfalso; omega))
        | ((with_reducible refine Res.eq ?_ ?_); (· exact aFit)))
    · exact ⟨.inr ⟨3, _, (by simp), aNx, aNx, aNx, aRow, aKeep⟩⟩
theorem clone_code_mk {es : List AV} (hsz : es.length * 64 ≤ 140737488355328) : CallN Try.prog 50 [.im 9 .any es] [] 0 (fun r1 H1 _ => ∃ b d0, r1 = .sl b es.length ∧ getH H1 b = some (.row 85 9 d0 es)) :=
  (clone_code_im hsz).mono fun r H n ⟨b, d, h1, _, _, _, h2, _⟩ => ⟨b, d, h1, h2⟩
theorem clone_code_pure {es : List AV} (hsz : es.length * 64 ≤ 140737488355328) (hf : fitL 0 es) : Pure Try.prog 50 [.im 9 .any es] (fun r => r = .im 9 .any es) := (clone_code_mk hsz).pureIm hf
end Go.Proofs.Ytliabecchkolgaa
