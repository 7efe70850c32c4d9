/- A new machine. -/
import Derived.Test.YtliabecchkolgaaVl
namespace Go.Proofs.Ytliabecchkolgaa
open Go Go.Abs Go.Proofs
set_option linter.unusedSimpArgs false
set_option linter.unusedVariables false
def objOk (o : Obj) : Bool := shapedOk o && (bad2 o.mem.length o.cores 0).isNone
theorem check_ok {o : Obj} (h : objOk o = true) : checkAv o = .tup [i64 0, i64 0, i64 0] := by
  simp only [objOk, Bool.and_eq_true, Option.isNone_iff_eq_none] at h
  rw [checkAv, if_pos h.1, h.2]
theorem check_bad {o : Obj} (h : objOk o = false) : ∃ k n : Int, checkAv o = .tup [i64 160, i64 k, i64 n] := by
  rw [checkAv]
  by_cases hs : shapedOk o = true
  · rw [if_pos hs]
    cases hb : bad2 o.mem.length o.cores 0 with
    | none => simp [objOk, hs, hb] at h
    | some p => exact ⟨p.1, p.2, rfl⟩
  · rw [if_neg hs]; exact ⟨0, 0, rfl⟩
theorem clone_at {o : Obj} (ho : o.Wf) (i : Nat) : Pure Try.prog 50 [.im 9 .any ((o.cores.getD i default).code.map Instr.av)] (fun r => r = .im 9 .any ((o.cores.getD i default).code.map Instr.av)) :=
  clone_code_pure (by rw [List.length_map]; have := (ho.at i).len; omega) (by simp [fitL_map, fitA])
theorem take_map (f : Core → AV) {l : List Core} {i : Nat} (h : i < l.length) : (l.take (i + 1)).map f = (l.take i).map f ++ [f (l.getD i default)] := by
  rw [List.take_succ_eq_append_getElem h, List.map_append]; simp [List.getD, h]
def core0 : CoreS := ⟨0, false, fun _ => 0, []⟩
def zcore : AV := .agg (core0.cells (.sc (.slice none 0 0)))
def NewRaw (o : Obj) (H : Hp) (nx : Nat) : AV → Hp → Nat → Prop := fun r H' n => nx ≤ n ∧ ∃ m c mm v, r = .tup [.pt m 1 0 0, i64 0] ∧ (nx ≤ m ∧ m < n) ∧ (nx ≤ c ∧ c < n) ∧ (nx ≤ mm ∧ mm < n) ∧ m ≠ c ∧ m ≠ mm ∧ c ≠ mm ∧
  (∃ d es, getH H' m = some (.row 103 8 d es) ∧ es = [.agg [.sc (.slice none 0 0), i64 o.shared, i64 o.locks, i64 o.buffer, v, .sl c o.cores.length, .sl mm o.mem.length, .sc (.slice none 0 0)]]) ∧
  (∃ d es, getH H' c = some (.row 98 19 d es) ∧ es = List.replicate o.cores.length zcore) ∧
  (∃ d, getH H' mm = some (.row 2 1 d (o.mem.map i64))) ∧
  ((v = .sc (.slice none 0 0) ∧ o.cores = []) ∨ ∃ cb d, v = .sl cb o.cores.length ∧ (nx ≤ cb ∧ cb < n) ∧ cb ≠ m ∧ cb ≠ c ∧ cb ≠ mm ∧ getH H' cb = some (.row 81 2 d (o.cores.map Core.av))) ∧
  ∀ b, b < nx → getH H' b = getH H b
def initM (o : Obj) : Mach := { cores := List.replicate o.cores.length core0, mem := o.mem, prints := [] }
def Rej (H : Hp) (nx : Nat) : AV → Hp → Nat → Prop := Kept H nx (.tup [.sc (.pointer none), i64 160])
theorem new_bad {o : Obj} (ho : o.Wf) (h : objOk o = false) {H : Hp} {nx : Nat} : CallN Try.prog 33 [o.av] H nx (Rej H nx) := by
  refine Go.fn Try.func33 nm33 low33 res33 nt33 rfl ?_
  obtain ⟨k, n, hk⟩ := check_bad h
  have hp := check_pure o ho
  rw [hk] at hp
  repeat' (first
    | ((with_reducible refine Go.red ?_); conv => whnf)
    | (with_reducible refine Go.and ?_ ?_)
    | (with_reducible exact True.intro)
    | (with_reducible refine Go.far ?_)
    | ((with_reducible refine Apt.mk ?_); (try dsimp only); omega)
    | ((with_reducible refine Ask.mk ?_); first | exact aAsk | exact aAsk2)
    | ((with_reducible refine Go.ari64 ?_ ?_ ?_); (· exact aBnd); (· exact aBnd))
    | ((with_reducible refine Go.ariu8 ?_ ?_ ?_); (· exact aBnd); (· exact aBnd))
    | (with_reducible refine Go.ari0 ?_)
    | (apply Go.elem; (· exact aElem))
    | (apply Go.row; (· exact aRow))
    | (apply Go.gives; (· exact aGives))
    | (apply Go.gives; (· exact aRes))
    | (with_reducible refine Go.unroll ?_)
    | ((with_reducible refine Go.callW (hp) ?_ ?_); (· exact aFit))
    | ((with_reducible refine Go.callJ (fun _ => hp) ?_ ?_); (· exact aFit))
    | ((with_reducible refine Go.callE (hp) ?_ ?_); (· exact aFit))
    | ((with_reducible refine Go.callF (fun _ => hp) ?_ ?_); (· exact aFit))
    | (refine Go.gt rfl ?_)
    | (refine Go.gf rfl ?_)
    | (with_reducible refine Go.join ?_)
    | (refine Go.lt' rfl ?_)
    | (refine Go.lf' rfl ?_)
    | ((with_reducible refine Go.bool ?_ ?_) <;> intro hc <;> (try simp only [List.length_map, ne_eq, hcs] at hc) <;> try (exfalso; omega))
    | ((with_reducible refine Res.eq ?_ ?_); (· exact aFit)))
  all_goals exact ⟨⟨rfl, aNx, aKeep⟩⟩
set_option maxRecDepth 20000 in
theorem new_ok0 {o : Obj} (ho : o.Wf) (ok : ObjOk o) (h : objOk o = true) {H : Hp} {nx : Nat} : CallN Try.prog 33 [o.av] H nx (NewRaw o H nx) := by
  refine Go.fn Try.func33 nm33 low33 res33 nt33 rfl ?_
  have hp := check_pure o ho
  rw [check_ok h] at hp
  have hoc := ok.cores
  repeat' (first
    | ((with_reducible refine Go.red ?_); conv => whnf)
    | (with_reducible refine Go.and ?_ ?_)
    | (with_reducible exact True.intro)
    | (with_reducible refine Go.far ?_)
    | ((with_reducible refine Apt.mk ?_); (try dsimp only); omega)
    | ((with_reducible refine Ask.mk ?_); first | exact aAsk | exact aAsk2)
    | ((with_reducible refine Go.ari64 ?_ ?_ ?_); (· exact aBnd); (· exact aBnd))
    | ((with_reducible refine Go.ariu8 ?_ ?_ ?_); (· exact aBnd); (· exact aBnd))
    | (with_reducible refine Go.ari0 ?_)
    | (apply Go.elem; (· exact aElem))
    | (apply Go.row; (· exact aRow))
    | (apply Go.gives; (· exact aGives))
    | (apply Go.gives; (· exact aRes))
    | (with_reducible refine Go.unroll ?_)
    | ((with_reducible refine Go.callW (hp) ?_ ?_); (· exact aFit))
    | ((with_reducible refine Go.callJ (fun _ => hp) ?_ ?_); (· exact aFit))
    | ((with_reducible refine Go.callE (hp) ?_ ?_); (· exact aFit))
    | ((with_reducible refine Go.callF (fun _ => hp) ?_ ?_); (· exact aFit))
    | (refine Go.gt rfl ?_)
    | (refine Go.gf rfl ?_)
    | (with_reducible refine Go.join ?_)
    | (refine Go.lt' rfl ?_)
    | (refine Go.lf' rfl ?_)
    | ((with_reducible refine Go.bool ?_ ?_) <;> intro hc <;> (try simp only [List.length_map, ne_eq, hcs] at hc) <;> try (exfalso; omega))
    | ((with_reducible refine Res.eq ?_ ?_); (· exact aFit)))
  refine Go.loop (fun i : Nat => [(1, .pt nx 1 0 0), (7, .pt (nx + 14) 1 0 0), (23, .im 2 .any (o.cores.map Core.av)), (24, i64 o.cores.length), (25, i64 i)]) (fun i H' n => i ≤ o.cores.length ∧ nx + 15 ≤ n ∧ (∃ d, getH H' nx = some (.row 25 5 d [o.av])) ∧ (∃ v d, getH H' (nx + 14) = some (.row 25 5 d [.agg [.sc (.slice none 0 0), i64 o.shared, i64 o.locks, i64 o.buffer, v]]) ∧ ((i = 0 ∧ v = .sc (.slice none 0 0)) ∨ ∃ cb d' es, 0 < i ∧ v = .sl cb i ∧ nx + 15 ≤ cb ∧ cb < n ∧ getH H' cb = some (.row 81 2 d' es) ∧ es = (o.cores.take i).map Core.av)) ∧ ∀ b, b < nx → getH H' b = getH H b) (fun i => o.cores.length - i) 0 aLess ⟨Nat.zero_le _, aNx, ⟨_, aRow⟩, ⟨_, _, aRow, .inl ⟨rfl, rfl⟩⟩, aKeep⟩ ?_
  rintro i H' n ⟨hi, hn, ⟨d1, r1⟩, ⟨v, d7, r7, hv⟩, hfr⟩
  rcases hv with ⟨rfl, rfl⟩ | ⟨cb, dcb, es, hi0, rfl, hcb1, hcb2, rcb, hes⟩
  · repeat' (first
        | ((with_reducible refine Go.red ?_); conv => whnf)
        | (with_reducible refine Go.and ?_ ?_)
        | (with_reducible exact True.intro)
        | (with_reducible refine Go.far ?_)
        | ((with_reducible refine Apt.mk ?_); (try dsimp only); omega)
        | ((with_reducible refine Ask.mk ?_); first | exact aAsk | exact aAsk2)
        | ((with_reducible refine Go.ari64 ?_ ?_ ?_); (· exact aBnd); (· exact aBnd))
        | ((with_reducible refine Go.ariu8 ?_ ?_ ?_); (· exact aBnd); (· exact aBnd))
        | (with_reducible refine Go.ari0 ?_)
        | (apply Go.elem; (· exact aElem))
        | (apply Go.row; (· exact aRow))
        | (apply Go.gives; (· exact aGives))
        | (apply Go.gives; (· exact aRes))
        | (with_reducible refine Go.unroll ?_)
        | ((with_reducible refine Go.callW (clone_at ho _) ?_ ?_); (· exact aFit))
        | ((with_reducible refine Go.callJ (fun _ => clone_at ho _) ?_ ?_); (· exact aFit))
        | ((with_reducible refine Go.callE (clone_at ho _) ?_ ?_); (· exact aFit))
        | ((with_reducible refine Go.callF (fun _ => clone_at ho _) ?_ ?_); (· exact aFit))
        | (refine Go.gt rfl ?_)
        | (refine Go.gf rfl ?_)
        | (with_reducible refine Go.join ?_)
        | (refine Go.lt' rfl ?_)
        | (refine Go.lf' rfl ?_)
        | ((with_reducible refine Go.bool ?_ ?_) <;> intro hc <;> (try simp only [List.length_map, ne_eq, hcs] at hc) <;> try (exfalso; omega))
        | ((with_reducible refine Res.eq ?_ ?_); (· exact aFit)))
    · refine ⟨0 + 1, by omega, aLess, by omega, aNx, ⟨_, aRow⟩, ⟨_, _, aRow, .inr ⟨n + 14, _, _, by omega, rfl, aNx, aNx, aRow, ?_⟩⟩, (by intro _b _hb; repeat (first | exact hfr _ _hb | exact rfl | (refine Eq.trans (getH_skipEq (by first | omega | (simp only [List.length_cons, List.length_nil]; omega))) ?_)))⟩
      rw [take_map _ (by omega)]; rfl
    refine Go.freshE (es := o.mem.map i64) [] .any (clone_words_mk (by rw [List.length_map]; have := ok.mem; omega)) (fun i hi => by rw [getD_av _ _ _ _ (by simpa using hi)]; trivial) (fun _ _ => rfl) (by simp [fitL, fitA, fitL_map]) ?_
    repeat' (first
        | ((with_reducible refine Go.red ?_); conv => whnf)
        | (with_reducible refine Go.and ?_ ?_)
        | (with_reducible exact True.intro)
        | (with_reducible refine Go.far ?_)
        | ((with_reducible refine Apt.mk ?_); (try dsimp only); omega)
        | ((with_reducible refine Ask.mk ?_); first | exact aAsk | exact aAsk2)
        | ((with_reducible refine Go.ari64 ?_ ?_ ?_); (· exact aBnd); (· exact aBnd))
        | ((with_reducible refine Go.ariu8 ?_ ?_ ?_); (· exact aBnd); (· exact aBnd))
        | (with_reducible refine Go.ari0 ?_)
        | (apply Go.elem; (· exact aElem))
        | (apply Go.row; (· exact aRow))
        | (apply Go.gives; (· exact aGives))
        | (apply Go.gives; (· exact aRes))
        | (with_reducible refine Go.unroll ?_)
        | (refine Go.gt rfl ?_)
        | (refine Go.gf rfl ?_)
        | (with_reducible refine Go.join ?_)
        | (refine Go.lt' rfl ?_)
        | (refine Go.lf' rfl ?_)
        | ((with_reducible refine Go.bool ?_ ?_) <;> intro hc <;> (try simp only [List.length_map, ne_eq, hcs] at hc) <;> try (exfalso; omega))
        | ((with_reducible refine Res.eq ?_ ?_); (· exact aFit)))
    refine ⟨aNx, n + 10, n + 5, n + 8, .sc (.slice none 0 0), rfl, ⟨aNx, aNx⟩, ⟨aNx, aNx⟩, ⟨aNx, aNx⟩, by omega, by omega, by omega, ⟨_, _, aRow, (by simp only [List.length_map, Int.toNat_natCast]; rfl)⟩, ⟨_, _, aRow, (by simp only [List.length_map, Int.toNat_natCast]; rfl)⟩, ⟨_, aRow⟩, .inl ⟨rfl, List.eq_nil_of_length_eq_zero (by omega)⟩, (by intro _b _hb; repeat (first | exact hfr _ _hb | exact rfl | (refine Eq.trans (getH_skipEq (by first | omega | (simp only [List.length_cons, List.length_nil]; omega))) ?_)))⟩
  · have hel : es.length = i := by rw [hes]; simp; omega
    repeat' (first
        | ((with_reducible refine Go.red ?_); conv => whnf)
        | (with_reducible refine Go.and ?_ ?_)
        | (with_reducible exact True.intro)
        | (with_reducible refine Go.far ?_)
        | ((with_reducible refine Apt.mk ?_); (try dsimp only); omega)
        | ((with_reducible refine Ask.mk ?_); first | exact aAsk | exact aAsk2)
        | ((with_reducible refine Go.ari64 ?_ ?_ ?_); (· exact aBnd); (· exact aBnd))
        | ((with_reducible refine Go.ariu8 ?_ ?_ ?_); (· exact aBnd); (· exact aBnd))
        | (with_reducible refine Go.ari0 ?_)
        | (apply Go.elem; (· exact aElem))
        | (apply Go.row; (· exact aRow))
        | (apply Go.gives; (· exact aGives))
        | (apply Go.gives; (· exact aRes))
        | (with_reducible refine Go.unroll ?_)
        | ((with_reducible refine Go.callW (clone_at ho _) ?_ ?_); (· exact aFit))
        | ((with_reducible refine Go.callJ (fun _ => clone_at ho _) ?_ ?_); (· exact aFit))
        | ((with_reducible refine Go.callE (clone_at ho _) ?_ ?_); (· exact aFit))
        | ((with_reducible refine Go.callF (fun _ => clone_at ho _) ?_ ?_); (· exact aFit))
        | (refine Go.gt rfl ?_)
        | (refine Go.gf rfl ?_)
        | (with_reducible refine Go.join ?_)
        | (refine Go.lt' rfl ?_)
        | (refine Go.lf' rfl ?_)
        | ((with_reducible refine Go.bool ?_ ?_) <;> intro hc <;> (try simp only [List.length_map, ne_eq, hcs] at hc) <;> try (exfalso; omega))
        | ((with_reducible refine Res.eq ?_ ?_); (· exact aFit)))
    · refine ⟨i + 1, by omega, aLess, by omega, aNx, ⟨_, aRow⟩, ⟨_, _, aRow, .inr ⟨cb, _, _, by omega, rfl, aNx, aNx, aRow, ?_⟩⟩, (by intro _b _hb; repeat (first | exact hfr _ _hb | exact rfl | (refine Eq.trans (getH_skipEq (by first | omega | (simp only [List.length_cons, List.length_nil]; omega))) ?_)))⟩
      rw [take_map _ (by omega), ← hes]; rfl
    refine Go.freshE (es := o.mem.map i64) [] .any (clone_words_mk (by rw [List.length_map]; have := ok.mem; omega)) (fun i hi => by rw [getD_av _ _ _ _ (by simpa using hi)]; trivial) (fun _ _ => rfl) (by simp [fitL, fitA, fitL_map]) ?_
    repeat' (first
        | ((with_reducible refine Go.red ?_); conv => whnf)
        | (with_reducible refine Go.and ?_ ?_)
        | (with_reducible exact True.intro)
        | (with_reducible refine Go.far ?_)
        | ((with_reducible refine Apt.mk ?_); (try dsimp only); omega)
        | ((with_reducible refine Ask.mk ?_); first | exact aAsk | exact aAsk2)
        | ((with_reducible refine Go.ari64 ?_ ?_ ?_); (· exact aBnd); (· exact aBnd))
        | ((with_reducible refine Go.ariu8 ?_ ?_ ?_); (· exact aBnd); (· exact aBnd))
        | (with_reducible refine Go.ari0 ?_)
        | (apply Go.elem; (· exact aElem))
        | (apply Go.row; (· exact aRow))
        | (apply Go.gives; (· exact aGives))
        | (apply Go.gives; (· exact aRes))
        | (with_reducible refine Go.unroll ?_)
        | (refine Go.gt rfl ?_)
        | (refine Go.gf rfl ?_)
        | (with_reducible refine Go.join ?_)
        | (refine Go.lt' rfl ?_)
        | (refine Go.lf' rfl ?_)
        | ((with_reducible refine Go.bool ?_ ?_) <;> intro hc <;> (try simp only [List.length_map, ne_eq, hcs] at hc) <;> try (exfalso; omega))
        | ((with_reducible refine Res.eq ?_ ?_); (· exact aFit)))
    refine ⟨aNx, n + 10, n + 5, n + 8, .sl cb i, rfl, ⟨aNx, aNx⟩, ⟨aNx, aNx⟩, ⟨aNx, aNx⟩, by omega, by omega, by omega, ⟨_, _, aRow, (by simp only [List.length_map, Int.toNat_natCast]; rfl)⟩, ⟨_, _, aRow, (by simp only [List.length_map, Int.toNat_natCast]; rfl)⟩, ⟨_, aRow⟩, .inr ⟨cb, dcb, by rw [show i = o.cores.length by omega], ⟨by omega, aNx⟩, by omega, by omega, by omega, ?_⟩, (by intro _b _hb; repeat (first | exact hfr _ _hb | exact rfl | (refine Eq.trans (getH_skipEq (by first | omega | (simp only [List.length_cons, List.length_nil]; omega))) ?_)))⟩
    have e : o.cores.map Core.av = es := by rw [hes, List.take_of_length_le (by omega)]
    rw [e]; (repeat (first | exact getH_here _ _ _ | assumption | refine getH_skip (by first | omega | (simp only [List.length_cons, List.length_nil]; omega)) ?_))
end Go.Proofs.Ytliabecchkolgaa
