/- A machine that is looked at alone: its parts; lists that are the same. -/
import Derived.Test.YtliabecchkolgaaVu
namespace Go.Proofs.Ytliabecchkolgaa
open Go Go.Abs Go.Proofs
set_option linter.unusedSimpArgs false
set_option linter.unusedVariables false
@[simp] theorem fit_coreF (c : CoreS) : fitL 0 (c.cells (.im 3 .any (c.buf.map StoreS.av))) := by simp [CoreS.cells, fitL, fitA, fitL_map]
/-- What simplifies away. -/
theorem aSimp {p : Prop} (h : p := by simp <;> fail) : p := h
theorem memory_fr (o : Obj) (s : Mach) (hm : s.mem.length ≤ 4096) : Pure Try.prog 18 [s.frozen o] (fun r => r = .im 1 .any (s.mem.map i64)) := by
  refine Go.pure Try.func18 nm18 low18 res18 nt18 rfl ?_
  have h1 := clone_words_pure (es := s.mem.map i64) (by rw [List.length_map]; omega) (by simp [fitL_map, fitA])
  repeat' (first
    | ((with_reducible refine Go.red ?_); conv => whnf)
    | (with_reducible refine Go.and ?_ ?_)
    | (with_reducible exact True.intro)
    | (with_reducible refine Go.far ?_)
    | ((with_reducible refine Apt.mk ?_); (try dsimp only); omega)
    | ((with_reducible refine Ask.mk ?_); first | exact aAsk | exact aAsk2)
    | ((with_reducible refine Go.ari64 ?_ ?_ ?_); (· exact aBnd); (· exact aBnd))
    | ((with_reducible refine Go.ariu8 ?_ ?_ ?_); (· exact aBnd); (· exact aBnd))
    | (with_reducible refine Go.ari0 ?_)
    | (apply Go.elem; (· exact aElem))
    | (apply Go.row; (· exact aRow))
    | (apply Go.gives; (· exact aGives))
    | (apply Go.gives; (· exact aRes))
    | (with_reducible refine Go.unroll ?_)
    | (with_reducible refine Go.drawn ?_)
    | ((with_reducible refine Go.callW (h1) ?_ ?_); (· exact aFit))
    | ((with_reducible refine Go.callJ (fun _ => h1) ?_ ?_); (· exact aFit))
    | ((with_reducible refine Go.callE (h1) ?_ ?_); (· exact aFit))
    | ((with_reducible refine Go.callF (fun _ => h1) ?_ ?_); (· exact aFit))
    | (refine Go.gt rfl ?_)
    | (refine Go.gf rfl ?_)
    | (with_reducible refine Go.join ?_)
    | (refine Go.lt' rfl ?_)
    | (refine Go.lf' rfl ?_)
    | ((with_reducible refine Go.bool ?_ ?_) <;> intro hc <;> (try simp only [List.length_map, ne_eq, hcs] at hc) <;> try (exfalso; omega))
    | ((with_reducible refine Res.eq ?_ ?_); (· exact aFit)))
  exact rfl
theorem prints_fr (o : Obj) (s : Mach) (hm : s.prints.length * 16 ≤ 140737488355328) : Pure Try.prog 27 [s.frozen o] (fun r => r = .im 2 .any (s.prints.map PrintS.av)) := by
  refine Go.pure Try.func27 nm27 low27 res27 nt27 rfl ?_
  have h1 := clone_prints_pure (es := s.prints.map PrintS.av) (by rw [List.length_map]; omega) (by simp [fitL_map, fitA, fitL])
  repeat' (first
    | ((with_reducible refine Go.red ?_); conv => whnf)
    | (with_reducible refine Go.and ?_ ?_)
    | (with_reducible exact True.intro)
    | (with_reducible refine Go.far ?_)
    | ((with_reducible refine Apt.mk ?_); (try dsimp only); omega)
    | ((with_reducible refine Ask.mk ?_); first | exact aAsk | exact aAsk2)
    | ((with_reducible refine Go.ari64 ?_ ?_ ?_); (· exact aBnd); (· exact aBnd))
    | ((with_reducible refine Go.ariu8 ?_ ?_ ?_); (· exact aBnd); (· exact aBnd))
    | (with_reducible refine Go.ari0 ?_)
    | (apply Go.elem; (· exact aElem))
    | (apply Go.row; (· exact aRow))
    | (apply Go.gives; (· exact aGives))
    | (apply Go.gives; (· exact aRes))
    | (with_reducible refine Go.unroll ?_)
    | (with_reducible refine Go.drawn ?_)
    | ((with_reducible refine Go.callW (h1) ?_ ?_); (· exact aFit))
    | ((with_reducible refine Go.callJ (fun _ => h1) ?_ ?_); (· exact aFit))
    | ((with_reducible refine Go.callE (h1) ?_ ?_); (· exact aFit))
    | ((with_reducible refine Go.callF (fun _ => h1) ?_ ?_); (· exact aFit))
    | (refine Go.gt rfl ?_)
    | (refine Go.gf rfl ?_)
    | (with_reducible refine Go.join ?_)
    | (refine Go.lt' rfl ?_)
    | (refine Go.lf' rfl ?_)
    | ((with_reducible refine Go.bool ?_ ?_) <;> intro hc <;> (try simp only [List.length_map, ne_eq, hcs] at hc) <;> try (exfalso; omega))
    | ((with_reducible refine Res.eq ?_ ?_); (· exact aFit)))
  exact rfl
theorem has_fr (o : Obj) (s : Mach) (k : Int) : Pure Try.prog 35 [s.frozen o, i64 k] (fun r => r = i64 (hasE s k)) := by
  refine Go.pure Try.func35 nm35 low35 res35 nt35 rfl ?_
  repeat' (first
    | ((with_reducible refine Go.red ?_); conv => whnf)
    | (with_reducible refine Go.and ?_ ?_)
    | (with_reducible exact True.intro)
    | (with_reducible refine Go.far ?_)
    | ((with_reducible refine Apt.mk ?_); (try dsimp only); omega)
    | ((with_reducible refine Ask.mk ?_); first | exact aAsk | exact aAsk2)
    | ((with_reducible refine Go.ari64 ?_ ?_ ?_); (· exact aBnd); (· exact aBnd))
    | ((with_reducible refine Go.ariu8 ?_ ?_ ?_); (· exact aBnd); (· exact aBnd))
    | (with_reducible refine Go.ari0 ?_)
    | (apply Go.elem; (· exact aElem))
    | (apply Go.row; (· exact aRow))
    | (apply Go.gives; (· exact aGives))
    | (apply Go.gives; (· exact aRes))
    | (with_reducible refine Go.unroll ?_)
    | (with_reducible refine Go.drawn ?_)
    | (refine Go.gt rfl ?_)
    | (refine Go.gf rfl ?_)
    | (with_reducible refine Go.join ?_)
    | (refine Go.lt' rfl ?_)
    | (refine Go.lf' rfl ?_)
    | ((with_reducible refine Go.bool ?_ ?_) <;> intro hc <;> (try simp only [List.length_map, ne_eq, hcs] at hc) <;> try (exfalso; omega))
    | ((with_reducible refine Res.eq ?_ ?_); (· exact aFit)))
  · rw [hasE, if_pos (by unfold out; omega)]
  · rw [hasE, if_neg (by unfold out; omega)]
theorem frozen_at {s : Mach} {q : Nat} (hq : q < s.cores.length) (d : AV) : (s.cores.map CoreS.frozen).getD q d = (s.core q).frozen := getD_av _ _ _ _ hq
theorem view_fr (o : Obj) (s : Mach) (q : Nat) (hq : q < s.cores.length) (hb : (s.core q).buf.length < 1000) : Pure Try.prog 20 [s.frozen o, i64 q] (fun r => r = .tup [(s.core q).frozen, i64 0]) := by
  refine Go.pure Try.func20 nm20 low20 res20 nt20 rfl ?_
  have hk : ¬ out s q := by unfold out; omega
  have he : hasE s q = 0 := by rw [hasE, if_neg hk]
  have h1 := clone_stores_pure (es := (s.core q).buf.map StoreS.av) (by rw [List.length_map]; omega) (by simp [fitL_map, fitA, fitL])
  have h2 := has_fr o s q
  rw [he, Mach.frozen] at h2
  repeat' (first
    | ((with_reducible refine Go.red ?_); conv => whnf)
    | (with_reducible refine Go.and ?_ ?_)
    | (with_reducible exact True.intro)
    | (with_reducible refine Go.far ?_)
    | ((with_reducible refine Apt.mk ?_); (try dsimp only); omega)
    | ((with_reducible refine Ask.mk ?_); first | exact aAsk | exact aAsk2)
    | ((with_reducible refine Go.ari64 ?_ ?_ ?_); (· exact aBnd); (· exact aBnd))
    | ((with_reducible refine Go.ariu8 ?_ ?_ ?_); (· exact aBnd); (· exact aBnd))
    | (with_reducible refine Go.ari0 ?_)
    | (apply Go.elem; (· (first | exact frozen_at hq _ | exact aElem)))
    | (apply Go.row; (· exact aRow))
    | (apply Go.gives; (· exact aGives))
    | (apply Go.gives; (· exact aRes))
    | (with_reducible refine Go.unroll ?_)
    | (with_reducible refine Go.drawn ?_)
    | ((with_reducible refine Go.callW (h2) ?_ ?_); (· exact aFit))
    | ((with_reducible refine Go.callJ (fun _ => h2) ?_ ?_); (· exact aFit))
    | ((with_reducible refine Go.callE (h2) ?_ ?_); (· exact aFit))
    | ((with_reducible refine Go.callF (fun _ => h2) ?_ ?_); (· exact aFit))
    | ((with_reducible refine Go.callW (h1) ?_ ?_); (· exact aFit))
    | ((with_reducible refine Go.callJ (fun _ => h1) ?_ ?_); (· exact aFit))
    | ((with_reducible refine Go.callE (h1) ?_ ?_); (· exact aFit))
    | ((with_reducible refine Go.callF (fun _ => h1) ?_ ?_); (· exact aFit))
    | (refine Go.gt rfl ?_)
    | (refine Go.gf rfl ?_)
    | (with_reducible refine Go.join ?_)
    | (refine Go.lt' rfl ?_)
    | (refine Go.lf' rfl ?_)
    | ((with_reducible refine Go.bool ?_ ?_) <;> intro hc <;> (try simp only [List.length_map, ne_eq, hcs] at hc) <;> try (exfalso; omega))
    | ((with_reducible refine Res.eq ?_ ?_); (· exact aFit)))
  exact rfl
theorem words_refl (l : List Int) (hl : l.length ≤ 140737488355328) : Pure Try.prog 17 [.im 1 .any (l.map i64), .im 1 .any (l.map i64)] (fun r => r = bl true) := by
  refine Go.pure Try.func17 nm17 low17 res17 nt17 rfl ?_
  repeat' (first
    | ((with_reducible refine Go.red ?_); conv => whnf)
    | (with_reducible refine Go.and ?_ ?_)
    | (with_reducible exact True.intro)
    | (with_reducible refine Go.far ?_)
    | ((with_reducible refine Apt.mk ?_); (try dsimp only); omega)
    | ((with_reducible refine Ask.mk ?_); first | exact aAsk | exact aAsk2)
    | ((with_reducible refine Go.ari64 ?_ ?_ ?_); (· exact aBnd); (· exact aBnd))
    | ((with_reducible refine Go.ariu8 ?_ ?_ ?_); (· exact aBnd); (· exact aBnd))
    | (with_reducible refine Go.ari0 ?_)
    | (apply Go.elem; (· exact aElem))
    | (apply Go.row; (· exact aRow))
    | (apply Go.gives; (· exact aGives))
    | (apply Go.gives; (· exact aRes))
    | (with_reducible refine Go.unroll ?_)
    | (with_reducible refine Go.drawn ?_)
    | (refine Go.lf' aSimp ?_)
    | (refine Go.gt rfl ?_)
    | (refine Go.gf rfl ?_)
    | (with_reducible refine Go.join ?_)
    | (refine Go.lt' rfl ?_)
    | (refine Go.lf' rfl ?_)
    | ((with_reducible refine Go.bool ?_ ?_) <;> intro hc <;> (try simp only [List.length_map, ne_eq, hcs] at hc) <;> try (exfalso; omega))
    | ((with_reducible refine Res.eq ?_ ?_); (· exact aFit)))
  refine Go.loop (fun i : Nat => [(0, .im 1 .any (l.map i64)), (1, .im 1 .any (l.map i64)), (5, i64 i)]) (fun i H' n => i ≤ l.length) (fun i => l.length - i) 0 aLess (Nat.zero_le _) ?_
  rintro i H' n hi
  repeat' (first
      | ((with_reducible refine Go.red ?_); conv => whnf)
      | (with_reducible refine Go.and ?_ ?_)
      | (with_reducible exact True.intro)
      | (with_reducible refine Go.far ?_)
      | ((with_reducible refine Apt.mk ?_); (try dsimp only); omega)
      | ((with_reducible refine Ask.mk ?_); first | exact aAsk | exact aAsk2)
      | ((with_reducible refine Go.ari64 ?_ ?_ ?_); (· exact aBnd); (· exact aBnd))
      | ((with_reducible refine Go.ariu8 ?_ ?_ ?_); (· exact aBnd); (· exact aBnd))
      | (with_reducible refine Go.ari0 ?_)
      | (apply Go.elem; (· exact aElem))
      | (apply Go.row; (· exact aRow))
      | (apply Go.gives; (· exact aGives))
      | (apply Go.gives; (· exact aRes))
      | (with_reducible refine Go.unroll ?_)
      | (with_reducible refine Go.drawn ?_)
      | (refine Go.lf' aSimp ?_)
      | (refine Go.gt rfl ?_)
      | (refine Go.gf rfl ?_)
      | (with_reducible refine Go.join ?_)
      | (refine Go.lt' rfl ?_)
      | (refine Go.lf' rfl ?_)
      | ((with_reducible refine Go.bool ?_ ?_) <;> intro hc <;> (try simp only [List.length_map, ne_eq, hcs] at hc) <;> try (exfalso; omega))
      | ((with_reducible refine Res.eq ?_ ?_); (· exact aFit)))
  · exact ⟨i + 1, by omega, aLess, by omega⟩
  · exact rfl
theorem prints_refl (l : List PrintS) (hl : l.length ≤ 140737488355328) : Pure Try.prog 28 [.im 2 .any (l.map PrintS.av), .im 2 .any (l.map PrintS.av)] (fun r => r = bl true) := by
  refine Go.pure Try.func28 nm28 low28 res28 nt28 rfl ?_
  repeat' (first
    | ((with_reducible refine Go.red ?_); conv => whnf)
    | (with_reducible refine Go.and ?_ ?_)
    | (with_reducible exact True.intro)
    | (with_reducible refine Go.far ?_)
    | ((with_reducible refine Apt.mk ?_); (try dsimp only); omega)
    | ((with_reducible refine Ask.mk ?_); first | exact aAsk | exact aAsk2)
    | ((with_reducible refine Go.ari64 ?_ ?_ ?_); (· exact aBnd); (· exact aBnd))
    | ((with_reducible refine Go.ariu8 ?_ ?_ ?_); (· exact aBnd); (· exact aBnd))
    | (with_reducible refine Go.ari0 ?_)
    | (apply Go.elem; (· exact aElem))
    | (apply Go.row; (· exact aRow))
    | (apply Go.gives; (· exact aGives))
    | (apply Go.gives; (· exact aRes))
    | (with_reducible refine Go.unroll ?_)
    | (with_reducible refine Go.drawn ?_)
    | (refine Go.lf' aSimp ?_)
    | (refine Go.gt rfl ?_)
    | (refine Go.gf rfl ?_)
    | (with_reducible refine Go.join ?_)
    | (refine Go.lt' rfl ?_)
    | (refine Go.lf' rfl ?_)
    | ((with_reducible refine Go.bool ?_ ?_) <;> intro hc <;> (try simp only [List.length_map, ne_eq, hcs] at hc) <;> try (exfalso; omega))
    | ((with_reducible refine Res.eq ?_ ?_); (· exact aFit)))
  refine Go.loop (fun i : Nat => [(0, .im 2 .any (l.map PrintS.av)), (1, .im 2 .any (l.map PrintS.av)), (5, i64 i)]) (fun i H' n => i ≤ l.length) (fun i => l.length - i) 0 aLess (Nat.zero_le _) ?_
  rintro i H' n hi
  repeat' (first
      | ((with_reducible refine Go.red ?_); conv => whnf)
      | (with_reducible refine Go.and ?_ ?_)
      | (with_reducible exact True.intro)
      | (with_reducible refine Go.far ?_)
      | ((with_reducible refine Apt.mk ?_); (try dsimp only); omega)
      | ((with_reducible refine Ask.mk ?_); first | exact aAsk | exact aAsk2)
      | ((with_reducible refine Go.ari64 ?_ ?_ ?_); (· exact aBnd); (· exact aBnd))
      | ((with_reducible refine Go.ariu8 ?_ ?_ ?_); (· exact aBnd); (· exact aBnd))
      | (with_reducible refine Go.ari0 ?_)
      | (apply Go.elem; (· exact aElem))
      | (apply Go.row; (· exact aRow))
      | (apply Go.gives; (· exact aGives))
      | (apply Go.gives; (· exact aRes))
      | (with_reducible refine Go.unroll ?_)
      | (with_reducible refine Go.drawn ?_)
      | (refine Go.lf' aSimp ?_)
      | (refine Go.gt rfl ?_)
      | (refine Go.gf rfl ?_)
      | (with_reducible refine Go.join ?_)
      | (refine Go.lt' rfl ?_)
      | (refine Go.lf' rfl ?_)
      | ((with_reducible refine Go.bool ?_ ?_) <;> intro hc <;> (try simp only [List.length_map, ne_eq, hcs] at hc) <;> try (exfalso; omega))
      | ((with_reducible refine Res.eq ?_ ?_); (· exact aFit)))
  · exact ⟨i + 1, by omega, aLess, by omega⟩
  · exact rfl
theorem same_refl (c : CoreS) (hb : c.buf.length < 1000) : Pure Try.prog 26 [c.frozen, c.frozen] (fun r => r = bl true) := by
  refine Go.pure Try.func26 nm26 low26 res26 nt26 rfl ?_
  repeat' (first
    | ((with_reducible refine Go.red ?_); conv => whnf)
    | (with_reducible refine Go.and ?_ ?_)
    | (with_reducible exact True.intro)
    | (with_reducible refine Go.far ?_)
    | ((with_reducible refine Apt.mk ?_); (try dsimp only); omega)
    | ((with_reducible refine Ask.mk ?_); first | exact aAsk | exact aAsk2)
    | ((with_reducible refine Go.ari64 ?_ ?_ ?_); (· exact aBnd); (· exact aBnd))
    | ((with_reducible refine Go.ariu8 ?_ ?_ ?_); (· exact aBnd); (· exact aBnd))
    | (with_reducible refine Go.ari0 ?_)
    | (apply Go.elem; (· exact aElem))
    | (apply Go.row; (· exact aRow))
    | (apply Go.gives; (· exact aGives))
    | (apply Go.gives; (· exact aRes))
    | (with_reducible refine Go.unroll ?_)
    | (with_reducible refine Go.drawn ?_)
    | (refine Go.gt aSimp ?_)
    | (refine Go.lf' aSimp ?_)
    | (refine Go.gt rfl ?_)
    | (refine Go.gf rfl ?_)
    | (with_reducible refine Go.join ?_)
    | (refine Go.lt' rfl ?_)
    | (refine Go.lf' rfl ?_)
    | ((with_reducible refine Go.bool ?_ ?_) <;> intro hc <;> (try simp only [List.length_map, ne_eq, hcs] at hc) <;> try (exfalso; omega))
    | ((with_reducible refine Res.eq ?_ ?_); (· exact aFit)))
  refine Go.loop (fun i : Nat => [(2, .pt 0 1 0 0), (3, .pt 1 1 0 0), (5, i64 i)]) (fun i H' n => i ≤ c.buf.length ∧ 2 ≤ n ∧ getH H' 0 = some (.row 55 19 .any [c.frozen]) ∧ getH H' 1 = some (.row 55 19 .any [c.frozen])) (fun i => c.buf.length - i) 0 aLess ⟨Nat.zero_le _, aNx, aRow, aRow⟩ ?_
  rintro i H' n ⟨hi, hn, r0, r1⟩
  repeat' (first
      | ((with_reducible refine Go.red ?_); conv => whnf)
      | (with_reducible refine Go.and ?_ ?_)
      | (with_reducible exact True.intro)
      | (with_reducible refine Go.far ?_)
      | ((with_reducible refine Apt.mk ?_); (try dsimp only); omega)
      | ((with_reducible refine Ask.mk ?_); first | exact aAsk | exact aAsk2)
      | ((with_reducible refine Go.ari64 ?_ ?_ ?_); (· exact aBnd); (· exact aBnd))
      | ((with_reducible refine Go.ariu8 ?_ ?_ ?_); (· exact aBnd); (· exact aBnd))
      | (with_reducible refine Go.ari0 ?_)
      | (apply Go.elem; (· exact aElem))
      | (apply Go.row; (· exact aRow))
      | (apply Go.gives; (· exact aGives))
      | (apply Go.gives; (· exact aRes))
      | (with_reducible refine Go.unroll ?_)
      | (with_reducible refine Go.drawn ?_)
      | (refine Go.lf' aSimp ?_)
      | (refine Go.gt rfl ?_)
      | (refine Go.gf rfl ?_)
      | (with_reducible refine Go.join ?_)
      | (refine Go.lt' rfl ?_)
      | (refine Go.lf' rfl ?_)
      | ((with_reducible refine Go.bool ?_ ?_) <;> intro hc <;> (try simp only [List.length_map, ne_eq, hcs] at hc) <;> try (exfalso; omega))
      | ((with_reducible refine Res.eq ?_ ?_); (· exact aFit)))
  · exact ⟨i + 1, by omega, aLess, by omega, aNx, aRow, aRow⟩
  · exact rfl
def endedB (c : CoreS) : Bool := c.halted && decide (c.buf.length = 0)
theorem ended1_pure (c : CoreS) : Pure Try.prog 48 [c.frozen] (fun r => r = bl (!endedB c)) := by
  refine Go.pure Try.func48 nm48 low48 res48 nt48 rfl ?_
  repeat' (first
    | ((with_reducible refine Go.red ?_); conv => whnf)
    | (with_reducible refine Go.and ?_ ?_)
    | (with_reducible exact True.intro)
    | (with_reducible refine Go.far ?_)
    | ((with_reducible refine Apt.mk ?_); (try dsimp only); omega)
    | ((with_reducible refine Ask.mk ?_); first | exact aAsk | exact aAsk2)
    | ((with_reducible refine Go.ari64 ?_ ?_ ?_); (· exact aBnd); (· exact aBnd))
    | ((with_reducible refine Go.ariu8 ?_ ?_ ?_); (· exact aBnd); (· exact aBnd))
    | (with_reducible refine Go.ari0 ?_)
    | (apply Go.elem; (· exact aElem))
    | (apply Go.row; (· exact aRow))
    | (apply Go.gives; (· exact aGives))
    | (apply Go.gives; (· exact aRes))
    | (with_reducible refine Go.unroll ?_)
    | (with_reducible refine Go.drawn ?_)
    | (refine Go.gt rfl ?_)
    | (refine Go.gf rfl ?_)
    | (with_reducible refine Go.join ?_)
    | (refine Go.lt' rfl ?_)
    | (refine Go.lf' rfl ?_)
    | ((with_reducible refine Go.bool ?_ ?_) <;> intro hc <;> (try simp only [List.length_map, ne_eq, hcs] at hc) <;> try (exfalso; omega))
    | ((with_reducible refine Res.eq ?_ ?_); (· exact aFit)))
  simp only [endedB]
  cases hh : c.halted <;> cases hb : c.buf <;> simp [hh, hb]
theorem index_pure (cs : List CoreS) (hl : cs.length ≤ 8) : Pure Try.prog 70 [.im 19 .any (cs.map CoreS.frozen), .fn (.func 48) [] []] (fun r => ∃ k, r = i64 k ∧ (0 ≤ k ↔ cs.all endedB = false)) := by
  refine Go.pure Try.func70 nm70 low70 res70 nt70 rfl ?_
  repeat' (first
    | ((with_reducible refine Go.red ?_); conv => whnf)
    | (with_reducible refine Go.and ?_ ?_)
    | (with_reducible exact True.intro)
    | (with_reducible refine Go.far ?_)
    | ((with_reducible refine Apt.mk ?_); (try dsimp only); omega)
    | ((with_reducible refine Ask.mk ?_); first | exact aAsk | exact aAsk2)
    | ((with_reducible refine Go.ari64 ?_ ?_ ?_); (· exact aBnd); (· exact aBnd))
    | ((with_reducible refine Go.ariu8 ?_ ?_ ?_); (· exact aBnd); (· exact aBnd))
    | (with_reducible refine Go.ari0 ?_)
    | (apply Go.elem; (· exact aElem))
    | (apply Go.row; (· exact aRow))
    | (apply Go.gives; (· exact aGives))
    | (apply Go.gives; (· exact aRes))
    | (with_reducible refine Go.unroll ?_)
    | (with_reducible refine Go.drawn ?_)
    | (refine Go.gt rfl ?_)
    | (refine Go.gf rfl ?_)
    | (with_reducible refine Go.join ?_)
    | (refine Go.lt' rfl ?_)
    | (refine Go.lf' rfl ?_)
    | ((with_reducible refine Go.bool ?_ ?_) <;> intro hc <;> (try simp only [List.length_map, ne_eq, hcs] at hc) <;> try (exfalso; omega))
    | ((with_reducible refine Res.eq ?_ ?_); (· exact aFit)))
  refine Go.loop (fun i : Nat => [(0, .im 19 .any (cs.map CoreS.frozen)), (1, .fn (.func 48) [] []), (7, i64 cs.length), (8, i64 i)]) (fun i _ _ => i ≤ cs.length ∧ ∀ j, j < i → endedB (cs.getD j default) = true) (fun i => cs.length - i) 0 aLess ⟨Nat.zero_le _, fun j hj => by omega⟩ ?_
  rintro i H' n ⟨hi, hall⟩
  repeat' (first
      | ((with_reducible refine Go.red ?_); conv => whnf)
      | (with_reducible refine Go.and ?_ ?_)
      | (with_reducible exact True.intro)
      | (with_reducible refine Go.far ?_)
      | ((with_reducible refine Apt.mk ?_); (try dsimp only); omega)
      | ((with_reducible refine Ask.mk ?_); first | exact aAsk | exact aAsk2)
      | ((with_reducible refine Go.ari64 ?_ ?_ ?_); (· exact aBnd); (· exact aBnd))
      | ((with_reducible refine Go.ariu8 ?_ ?_ ?_); (· exact aBnd); (· exact aBnd))
      | (with_reducible refine Go.ari0 ?_)
      | (apply Go.elem; (· exact aElem))
      | (apply Go.row; (· exact aRow))
      | (apply Go.gives; (· exact aGives))
      | (apply Go.gives; (· exact aRes))
      | (with_reducible refine Go.unroll ?_)
      | (with_reducible refine Go.drawn ?_)
      | ((with_reducible refine Go.callW (ended1_pure _) ?_ ?_); (· exact aFit))
      | ((with_reducible refine Go.callJ (fun _ => ended1_pure _) ?_ ?_); (· exact aFit))
      | ((with_reducible refine Go.callE (ended1_pure _) ?_ ?_); (· exact aFit))
      | ((with_reducible refine Go.callF (fun _ => ended1_pure _) ?_ ?_); (· exact aFit))
      | (refine Go.gt rfl ?_)
      | (refine Go.gf rfl ?_)
      | (with_reducible refine Go.join ?_)
      | (refine Go.lt' rfl ?_)
      | (refine Go.lf' rfl ?_)
      | ((with_reducible refine Go.bool ?_ ?_) <;> intro hc <;> (try simp only [List.length_map, ne_eq, hcs] at hc) <;> try (exfalso; omega))
      | ((with_reducible refine Res.eq ?_ ?_); (· exact aFit)))
  · refine ⟨⟨by simp [fitA], (i : Int), rfl, fun _ => ?_, fun _ => by omega⟩⟩
    have hi2 : i < cs.length := by omega
    rw [List.all_eq_false]
    refine ⟨cs[i], List.getElem_mem hi2, ?_⟩
    have : cs.getD i default = cs[i] := by simp [List.getD, hi2]
    rw [this] at hc; simp [hc]
  · refine ⟨i + 1, by omega, aLess, by omega, fun j hj => ?_⟩
    by_cases hji : j = i
    · subst hji; exact hc
    · exact hall j (by omega)
  · refine ⟨⟨by simp [fitA], (-1 : Int), rfl, fun h => by omega, fun h => ?_⟩⟩
    exfalso
    have : cs.all endedB = true := by
      rw [List.all_eq_true]
      intro x hx
      obtain ⟨j, hj, rfl⟩ := List.mem_iff_getElem.1 hx
      have := hall j (by omega)
      simpa [List.getD, hj] using this
    rw [this] at h; cases h
theorem contains_pure (cs : List CoreS) (hl : cs.length ≤ 8) : Pure Try.prog 47 [.im 19 .any (cs.map CoreS.frozen), .fn (.func 48) [] []] (fun r => r = bl (!cs.all endedB)) := by
  refine Go.pure Try.func47 nm47 low47 res47 nt47 rfl ?_
  repeat' (first
    | ((with_reducible refine Go.red ?_); conv => whnf)
    | (with_reducible refine Go.and ?_ ?_)
    | (with_reducible exact True.intro)
    | (with_reducible refine Go.far ?_)
    | ((with_reducible refine Apt.mk ?_); (try dsimp only); omega)
    | ((with_reducible refine Ask.mk ?_); first | exact aAsk | exact aAsk2)
    | ((with_reducible refine Go.ari64 ?_ ?_ ?_); (· exact aBnd); (· exact aBnd))
    | ((with_reducible refine Go.ariu8 ?_ ?_ ?_); (· exact aBnd); (· exact aBnd))
    | (with_reducible refine Go.ari0 ?_)
    | (apply Go.elem; (· exact aElem))
    | (apply Go.row; (· exact aRow))
    | (apply Go.gives; (· exact aGives))
    | (apply Go.gives; (· exact aRes))
    | (with_reducible refine Go.unroll ?_)
    | (with_reducible refine Go.drawn ?_)
    | (refine Go.gt rfl ?_)
    | (refine Go.gf rfl ?_)
    | (with_reducible refine Go.join ?_)
    | (refine Go.lt' rfl ?_)
    | (refine Go.lf' rfl ?_)
    | ((with_reducible refine Go.bool ?_ ?_) <;> intro hc <;> (try simp only [List.length_map, ne_eq, hcs] at hc) <;> try (exfalso; omega))
    | ((with_reducible refine Res.eq ?_ ?_); (· exact aFit)))
  refine Go.callR (index_pure cs hl) (by simp [fitL, fitA, fitL_map]) ?_
  rintro _ ⟨k, rfl, hk⟩
  repeat' (first
    | ((with_reducible refine Go.red ?_); conv => whnf)
    | (with_reducible refine Go.and ?_ ?_)
    | (with_reducible exact True.intro)
    | (with_reducible refine Go.far ?_)
    | ((with_reducible refine Apt.mk ?_); (try dsimp only); omega)
    | ((with_reducible refine Ask.mk ?_); first | exact aAsk | exact aAsk2)
    | ((with_reducible refine Go.ari64 ?_ ?_ ?_); (· exact aBnd); (· exact aBnd))
    | ((with_reducible refine Go.ariu8 ?_ ?_ ?_); (· exact aBnd); (· exact aBnd))
    | (with_reducible refine Go.ari0 ?_)
    | (apply Go.elem; (· exact aElem))
    | (apply Go.row; (· exact aRow))
    | (apply Go.gives; (· exact aGives))
    | (apply Go.gives; (· exact aRes))
    | (with_reducible refine Go.unroll ?_)
    | (with_reducible refine Go.drawn ?_)
    | (refine Go.gt rfl ?_)
    | (refine Go.gf rfl ?_)
    | (with_reducible refine Go.join ?_)
    | (refine Go.lt' rfl ?_)
    | (refine Go.lf' rfl ?_)
    | ((with_reducible refine Go.bool ?_ ?_) <;> intro hc <;> (try simp only [List.length_map, ne_eq, hcs] at hc) <;> try (exfalso; omega))
    | ((with_reducible refine Res.eq ?_ ?_); (· exact aFit)))
  cases hb : cs.all endedB with
  | true =>
    rw [hb] at hk
    have : ¬ (0 ≤ k) := fun h => by simpa using hk.1 h
    simp [this]
  | false => simp [hk.2 hb]
theorem ended_fr (o : Obj) (s : Mach) (hl : s.cores.length ≤ 8) : Pure Try.prog 32 [s.frozen o] (fun r => r = bl (s.cores.all endedB)) := by
  refine Go.pure Try.func32 nm32 low32 res32 nt32 rfl ?_
  repeat' (first
    | ((with_reducible refine Go.red ?_); conv => whnf)
    | (with_reducible refine Go.and ?_ ?_)
    | (with_reducible exact True.intro)
    | (with_reducible refine Go.far ?_)
    | ((with_reducible refine Apt.mk ?_); (try dsimp only); omega)
    | ((with_reducible refine Ask.mk ?_); first | exact aAsk | exact aAsk2)
    | ((with_reducible refine Go.ari64 ?_ ?_ ?_); (· exact aBnd); (· exact aBnd))
    | ((with_reducible refine Go.ariu8 ?_ ?_ ?_); (· exact aBnd); (· exact aBnd))
    | (with_reducible refine Go.ari0 ?_)
    | (apply Go.elem; (· exact aElem))
    | (apply Go.row; (· exact aRow))
    | (apply Go.gives; (· exact aGives))
    | (apply Go.gives; (· exact aRes))
    | (with_reducible refine Go.unroll ?_)
    | (with_reducible refine Go.drawn ?_)
    | ((with_reducible refine Go.callW (contains_pure s.cores hl) ?_ ?_); (· exact aFit))
    | ((with_reducible refine Go.callJ (fun _ => contains_pure s.cores hl) ?_ ?_); (· exact aFit))
    | ((with_reducible refine Go.callE (contains_pure s.cores hl) ?_ ?_); (· exact aFit))
    | ((with_reducible refine Go.callF (fun _ => contains_pure s.cores hl) ?_ ?_); (· exact aFit))
    | (refine Go.gt rfl ?_)
    | (refine Go.gf rfl ?_)
    | (with_reducible refine Go.join ?_)
    | (refine Go.lt' rfl ?_)
    | (refine Go.lf' rfl ?_)
    | ((with_reducible refine Go.bool ?_ ?_) <;> intro hc <;> (try simp only [List.length_map, ne_eq, hcs] at hc) <;> try (exfalso; omega))
    | ((with_reducible refine Res.eq ?_ ?_); (· exact aFit)))
  simp
structure Lookable (s : Mach) : Prop where
  cores : s.cores.length ≤ 8
  mem : s.mem.length ≤ 4096
  prints : s.prints.length * 16 ≤ 140737488355328
  buf : ∀ q, q < s.cores.length → (s.core q).buf.length < 1000
theorem Good.lookable {o : Obj} {s : Mach} (g : Good o s) (ok : ObjOk o) (hp : s.prints.length * 16 ≤ 140737488355328) : Lookable s :=
  ⟨by rw [g.n]; exact ok.cores, by rw [g.mem]; exact ok.mem, hp, fun q hq => by have := g.buf q hq; have := ok.buffer; omega⟩
set_option maxHeartbeats 4000000 in
theorem alike_fr (o : Obj) (s : Mach) (h : Lookable s) : Pure Try.prog 29 [s.frozen o, s.frozen o] (fun r => r = bl true) := by
  refine Go.pure Try.func29 nm29 low29 res29 nt29 rfl ?_
  have hm := h.mem
  have hp := h.prints
  have hc8 := h.cores
  have h1 := cores_pure o s
  have h2 := memory_fr o s hm
  have h3 := prints_fr o s hp
  have h4 := ended_fr o s h.cores
  have h5 := words_refl s.mem (by omega)
  have h6 := prints_refl s.prints (by omega)
  simp only [Mach.frozen] at h1 h2 h3 h4 ⊢
  repeat' (first
    | ((with_reducible refine Go.red ?_); conv => whnf)
    | (with_reducible refine Go.and ?_ ?_)
    | (with_reducible exact True.intro)
    | (with_reducible refine Go.far ?_)
    | ((with_reducible refine Apt.mk ?_); (try dsimp only); omega)
    | ((with_reducible refine Ask.mk ?_); first | exact aAsk | exact aAsk2)
    | ((with_reducible refine Go.ari64 ?_ ?_ ?_); (· exact aBnd); (· exact aBnd))
    | ((with_reducible refine Go.ariu8 ?_ ?_ ?_); (· exact aBnd); (· exact aBnd))
    | (with_reducible refine Go.ari0 ?_)
    | (apply Go.elem; (· exact aElem))
    | (apply Go.row; (· exact aRow))
    | (apply Go.gives; (· exact aGives))
    | (apply Go.gives; (· exact aRes))
    | (with_reducible refine Go.unroll ?_)
    | (with_reducible refine Go.drawn ?_)
    | ((with_reducible refine Go.callW (h1) ?_ ?_); (· exact aFit))
    | ((with_reducible refine Go.callJ (fun _ => h1) ?_ ?_); (· exact aFit))
    | ((with_reducible refine Go.callE (h1) ?_ ?_); (· exact aFit))
    | ((with_reducible refine Go.callF (fun _ => h1) ?_ ?_); (· exact aFit))
    | ((with_reducible refine Go.callW (h2) ?_ ?_); (· exact aFit))
    | ((with_reducible refine Go.callJ (fun _ => h2) ?_ ?_); (· exact aFit))
    | ((with_reducible refine Go.callE (h2) ?_ ?_); (· exact aFit))
    | ((with_reducible refine Go.callF (fun _ => h2) ?_ ?_); (· exact aFit))
    | ((with_reducible refine Go.callW (h3) ?_ ?_); (· exact aFit))
    | ((with_reducible refine Go.callJ (fun _ => h3) ?_ ?_); (· exact aFit))
    | ((with_reducible refine Go.callE (h3) ?_ ?_); (· exact aFit))
    | ((with_reducible refine Go.callF (fun _ => h3) ?_ ?_); (· exact aFit))
    | ((with_reducible refine Go.callW (h4) ?_ ?_); (· exact aFit))
    | ((with_reducible refine Go.callJ (fun _ => h4) ?_ ?_); (· exact aFit))
    | ((with_reducible refine Go.callE (h4) ?_ ?_); (· exact aFit))
    | ((with_reducible refine Go.callF (fun _ => h4) ?_ ?_); (· exact aFit))
    | ((with_reducible refine Go.callW (h5) ?_ ?_); (· exact aFit))
    | ((with_reducible refine Go.callJ (fun _ => h5) ?_ ?_); (· exact aFit))
    | ((with_reducible refine Go.callE (h5) ?_ ?_); (· exact aFit))
    | ((with_reducible refine Go.callF (fun _ => h5) ?_ ?_); (· exact aFit))
    | ((with_reducible refine Go.callW (h6) ?_ ?_); (· exact aFit))
    | ((with_reducible refine Go.callJ (fun _ => h6) ?_ ?_); (· exact aFit))
    | ((with_reducible refine Go.callE (h6) ?_ ?_); (· exact aFit))
    | ((with_reducible refine Go.callF (fun _ => h6) ?_ ?_); (· exact aFit))
    | (refine Go.gt aSimp ?_)
    | (refine Go.lf' aSimp ?_)
    | (refine Go.gt rfl ?_)
    | (refine Go.gf rfl ?_)
    | (with_reducible refine Go.join ?_)
    | (refine Go.lt' rfl ?_)
    | (refine Go.lf' rfl ?_)
    | ((with_reducible refine Go.bool ?_ ?_) <;> intro hc <;> (try simp only [List.length_map, ne_eq, hcs] at hc) <;> try (exfalso; omega))
    | ((with_reducible refine Res.eq ?_ ?_); (· exact aFit)))
  refine Go.loop (fun i : Nat => [(0, s.frozen o), (1, s.frozen o), (5, i64 i)]) (fun i _ _ => i ≤ s.cores.length) (fun i => s.cores.length - i) 0 aLess (Nat.zero_le _) ?_
  rintro i H' n hi
  simp only [Mach.frozen]
  by_cases hi2 : i < s.cores.length
  · have h7 := view_fr o s i hi2 (h.buf i hi2)
    have h8 := same_refl (s.core i) (h.buf i hi2)
    simp only [Mach.frozen] at h7
    repeat' (first
        | ((with_reducible refine Go.red ?_); conv => whnf)
        | (with_reducible refine Go.and ?_ ?_)
        | (with_reducible exact True.intro)
        | (with_reducible refine Go.far ?_)
        | ((with_reducible refine Apt.mk ?_); (try dsimp only); omega)
        | ((with_reducible refine Ask.mk ?_); first | exact aAsk | exact aAsk2)
        | ((with_reducible refine Go.ari64 ?_ ?_ ?_); (· exact aBnd); (· exact aBnd))
        | ((with_reducible refine Go.ariu8 ?_ ?_ ?_); (· exact aBnd); (· exact aBnd))
        | (with_reducible refine Go.ari0 ?_)
        | (apply Go.elem; (· exact aElem))
        | (apply Go.row; (· exact aRow))
        | (apply Go.gives; (· exact aGives))
        | (apply Go.gives; (· exact aRes))
        | (with_reducible refine Go.unroll ?_)
        | (with_reducible refine Go.drawn ?_)
        | ((with_reducible refine Go.callW (h1) ?_ ?_); (· exact aFit))
        | ((with_reducible refine Go.callJ (fun _ => h1) ?_ ?_); (· exact aFit))
        | ((with_reducible refine Go.callE (h1) ?_ ?_); (· exact aFit))
        | ((with_reducible refine Go.callF (fun _ => h1) ?_ ?_); (· exact aFit))
        | ((with_reducible refine Go.callW (h7) ?_ ?_); (· exact aFit))
        | ((with_reducible refine Go.callJ (fun _ => h7) ?_ ?_); (· exact aFit))
        | ((with_reducible refine Go.callE (h7) ?_ ?_); (· exact aFit))
        | ((with_reducible refine Go.callF (fun _ => h7) ?_ ?_); (· exact aFit))
        | ((with_reducible refine Go.callW (h8) ?_ ?_); (· exact aFit))
        | ((with_reducible refine Go.callJ (fun _ => h8) ?_ ?_); (· exact aFit))
        | ((with_reducible refine Go.callE (h8) ?_ ?_); (· exact aFit))
        | ((with_reducible refine Go.callF (fun _ => h8) ?_ ?_); (· exact aFit))
        | (refine Go.gt aSimp ?_)
        | (refine Go.lf' aSimp ?_)
        | (refine Go.gt rfl ?_)
        | (refine Go.gf rfl ?_)
        | (with_reducible refine Go.join ?_)
        | (refine Go.lt' rfl ?_)
        | (refine Go.lf' rfl ?_)
        | ((with_reducible refine Go.bool ?_ ?_) <;> intro hc <;> (try simp only [List.length_map, ne_eq, hcs] at hc) <;> try (exfalso; omega))
        | ((with_reducible refine Res.eq ?_ ?_); (· exact aFit)))
    · exact ⟨i + 1, by omega, aLess, by omega⟩
  · repeat' (first
        | ((with_reducible refine Go.red ?_); conv => whnf)
        | (with_reducible refine Go.and ?_ ?_)
        | (with_reducible exact True.intro)
        | (with_reducible refine Go.far ?_)
        | ((with_reducible refine Apt.mk ?_); (try dsimp only); omega)
        | ((with_reducible refine Ask.mk ?_); first | exact aAsk | exact aAsk2)
        | ((with_reducible refine Go.ari64 ?_ ?_ ?_); (· exact aBnd); (· exact aBnd))
        | ((with_reducible refine Go.ariu8 ?_ ?_ ?_); (· exact aBnd); (· exact aBnd))
        | (with_reducible refine Go.ari0 ?_)
        | (apply Go.elem; (· exact aElem))
        | (apply Go.row; (· exact aRow))
        | (apply Go.gives; (· exact aGives))
        | (apply Go.gives; (· exact aRes))
        | (with_reducible refine Go.unroll ?_)
        | (with_reducible refine Go.drawn ?_)
        | ((with_reducible refine Go.callW (h1) ?_ ?_); (· exact aFit))
        | ((with_reducible refine Go.callJ (fun _ => h1) ?_ ?_); (· exact aFit))
        | ((with_reducible refine Go.callE (h1) ?_ ?_); (· exact aFit))
        | ((with_reducible refine Go.callF (fun _ => h1) ?_ ?_); (· exact aFit))
        | (refine Go.gt rfl ?_)
        | (refine Go.gf rfl ?_)
        | (with_reducible refine Go.join ?_)
        | (refine Go.lt' rfl ?_)
        | (refine Go.lf' rfl ?_)
        | ((with_reducible refine Go.bool ?_ ?_) <;> intro hc <;> (try simp only [List.length_map, ne_eq, hcs] at hc) <;> try (exfalso; omega))
        | ((with_reducible refine Res.eq ?_ ?_); (· exact aFit)))
    · exact rfl
end Go.Proofs.Ytliabecchkolgaa
