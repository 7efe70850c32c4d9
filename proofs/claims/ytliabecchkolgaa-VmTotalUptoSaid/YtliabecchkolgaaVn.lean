/- A new machine. -/
import Derived.Test.YtliabecchkolgaaVk
namespace Go.Proofs.Ytliabecchkolgaa
open Go Go.Abs Go.Proofs
set_option linter.unusedSimpArgs false
set_option linter.unusedVariables false
def objOk (o : Obj) : Bool := shapedOk o && (bad2 o.mem.length o.cores 0).isNone
theorem check_ok {o : Obj} (h : objOk o = true) : checkAv o = .tup [i64 0, i64 0, i64 0] := by
  simp only [objOk, Bool.and_eq_true, Option.isNone_iff_eq_none] at h
  rw [checkAv, if_pos h.1, h.2]
theorem check_bad {o : Obj} (h : objOk o = false) : ∃ k n : Int, checkAv o = .tup [i64 160, i64 k, i64 n] := by
  rw [checkAv]
  by_cases hs : shapedOk o = true
  · rw [if_pos hs]
    cases hb : bad2 o.mem.length o.cores 0 with
    | none => simp [objOk, hs, hb] at h
    | some p => exact ⟨p.1, p.2, rfl⟩
  · rw [if_neg hs]; exact ⟨0, 0, rfl⟩
theorem clone_at {o : Obj} (ho : o.Wf) (i : Nat) : Pure Try.prog 50 [.im 9 .any ((o.cores.getD i default).code.map Instr.av)] (fun r => r = .im 9 .any ((o.cores.getD i default).code.map Instr.av)) :=
  clone_code_pure (by rw [List.length_map]; have := (ho.at i).len; omega) (by simp [fitL_map, fitA])
theorem take_map (f : Core → AV) {l : List Core} {i : Nat} (h : i < l.length) : (l.take (i + 1)).map f = (l.take i).map f ++ [f (l.getD i default)] := by
  rw [List.take_succ_eq_append_getElem h, List.map_append]; simp [List.getD, h]
def core0 : CoreS := ⟨0, false, fun _ => 0, []⟩
def zcore : AV := .agg (core0.cells (.sc (.slice none 0 0)))
def NewRaw (o : Obj) (H : Hp) (nx : Nat) : AV → Hp → Nat → Prop := fun r H' n => nx ≤ n ∧ ∃ m c mm v, r = .tup [.pt m 1 0 0, i64 0] ∧ (nx ≤ m ∧ m < n) ∧ (nx ≤ c ∧ c < n) ∧ (nx ≤ mm ∧ mm < n) ∧ m ≠ c ∧ m ≠ mm ∧ c ≠ mm ∧
  (∃ d es, getH H' m = some (.row 103 8 d es) ∧ es = [.agg [.sc (.slice none 0 0), i64 o.shared, i64 o.locks, i64 o.buffer, v, .sl c o.cores.length, .sl mm o.mem.length, .sc (.slice none 0 0)]]) ∧
  (∃ d es, getH H' c = some (.row 98 19 d es) ∧ es = List.replicate o.cores.length zcore) ∧
  (∃ d, getH H' mm = some (.row 2 1 d (o.mem.map i64))) ∧
  ((v = .sc (.slice none 0 0) ∧ o.cores = []) ∨ ∃ cb d, v = .sl cb o.cores.length ∧ (nx ≤ cb ∧ cb < n) ∧ cb ≠ m ∧ cb ≠ c ∧ cb ≠ mm ∧ getH H' cb = some (.row 81 2 d (o.cores.map Core.av))) ∧
  ∀ b, b < nx → getH H' b = getH H b
def initM (o : Obj) : Mach := { cores := List.replicate o.cores.length core0, mem := o.mem, prints := [] }
def Rej (H : Hp) (nx : Nat) : AV → Hp → Nat → Prop := Kept H nx (.tup [.sc (.pointer none), i64 160])
theorem new_bad {o : Obj} (ho : o.Wf) (h : objOk o = false) {H : Hp} {nx : Nat} : CallN Try.prog 33 [o.av] H nx (Rej H nx) := by
  refine Go.fn Try.func33 nm33 low33 res33 nt33 rfl ?_
  obtain ⟨k, n, hk⟩ := check_bad h
  have hp := check_pure o ho
  rw [hk] at hp
  repeat' (first
    | ((with_reducible refine Go.red ?_); conv => whnf)
    | (with_reducible refine Go.and ?_ ?_)
    | (with_reducible exact True.intro)
    | (with_reducible refine Go.far ?_)
    | ((with_reducible refine Apt.mk ?_); (try dsimp only); omega)
    | ((with_reducible refine Ask.mk ?_); first | exact aAsk | exact aAsk2)
    | ((with_reducible refine Go.ari64 ?_ ?_ ?_); (· exact aBnd); (· exact aBnd))
    | ((with_reducible refine Go.ariu8 ?_ ?_ ?_); (· exact aBnd); (· exact aBnd))
    | (with_reducible refine Go.ari0 ?_)
    | (apply Go.elem; (· exact aElem))
    | (apply Go.row; (· exact aRow))
    | (apply Go.gives; (· exact aGives))
    | (apply Go.gives; (· exact aRes))
    | (with_reducible refine Go.unroll ?_)
    | (with_reducible refine Go.drawn ?_)
    | ((with_reducible refine Go.callW (hp) ?_ ?_); (· exact aFit))
    | ((with_reducible refine Go.callJ (fun _ => hp) ?_ ?_); (· exact aFit))
    | ((with_reducible refine Go.callE (hp) ?_ ?_); (· exact aFit))
    | ((with_reducible refine Go.callF (fun _ => hp) ?_ ?_); (· exact aFit))
    | (refine Go.gt rfl ?_)
    | (refine Go.gf rfl ?_)
    | (with_reducible refine Go.join ?_)
    | (refine Go.lt' rfl ?_)
    | (refine Go.lf' rfl ?_)
    | ((with_reducible refine Go.bool ?_ ?_) <;> intro hc <;> (try simp only [List.length_map, ne_eq, hcs] at hc) <;> try (exfalso; omega))
    | ((with_reducible refine Res.eq ?_ ?_); (· exact aFit)))
  all_goals exact ⟨⟨rfl, aNx, aKeep⟩⟩
set_option maxRecDepth 20000 in
theorem new_ok0 {o : Obj} (ho : o.Wf) (ok : ObjOk o) (h : objOk o = true) {H : Hp} {nx : Nat} : CallN Try.prog 33 [o.av] H nx (NewRaw o H nx) := by
  refine Go.fn Try.func33 nm33 low33 res33 nt33 rfl ?_
  have hp := check_pure o ho
  rw [check_ok h] at hp
  have hoc := ok.cores
  repeat' (first
    | ((with_reducible refine Go.red ?_); conv => whnf)
    | (with_reducible refine Go.and ?_ ?_)
    | (with_reducible exact True.intro)
    | (with_reducible refine Go.far ?_)
    | ((with_reducible refine Apt.mk ?_); (try dsimp only); omega)
    | ((with_reducible refine Ask.mk ?_); first | exact aAsk | exact aAsk2)
    | ((with_reducible refine Go.ari64 ?_ ?_ ?_); (· exact aBnd); (· exact aBnd))
    | ((with_reducible refine Go.ariu8 ?_ ?_ ?_); (· exact aBnd); (· exact aBnd))
    | (with_reducible refine Go.ari0 ?_)
    | (apply Go.elem; (· exact aElem))
    | (apply Go.row; (· exact aRow))
    | (apply Go.gives; (· exact aGives))
    | (apply Go.gives; (· exact aRes))
    | (with_reducible refine Go.unroll ?_)
    | (with_reducible refine Go.drawn ?_)
    | ((with_reducible refine Go.callW (hp) ?_ ?_); (· exact aFit))
    | ((with_reducible refine Go.callJ (fun _ => hp) ?_ ?_); (· exact aFit))
    | ((with_reducible refine Go.callE (hp) ?_ ?_); (· exact aFit))
    | ((with_reducible refine Go.callF (fun _ => hp) ?_ ?_); (· exact aFit))
    | (refine Go.gt rfl ?_)
    | (refine Go.gf rfl ?_)
    | (with_reducible refine Go.join ?_)
    | (refine Go.lt' rfl ?_)
    | (refine Go.lf' rfl ?_)
    | ((with_reducible refine Go.bool ?_ ?_) <;> intro hc <;> (try simp only [List.length_map, ne_eq, hcs] at hc) <;> try (exfalso; omega))
    | ((with_reducible refine Res.eq ?_ ?_); (· exact aFit)))
  refine Go.loop (fun i : Nat => [(1, .pt nx 1 0 0), (7, .pt (nx + 14) 1 0 0), (23, .im 2 .any (o.cores.map Core.av)), (24, i64 o.cores.length), (25, i64 i)]) (fun i H' n => i ≤ o.cores.length ∧ nx + 15 ≤ n ∧ (∃ d, getH H' nx = some (.row 25 5 d [o.av])) ∧ (∃ v d, getH H' (nx + 14) = some (.row 25 5 d [.agg [.sc (.slice none 0 0), i64 o.shared, i64 o.locks, i64 o.buffer, v]]) ∧ ((i = 0 ∧ v = .sc (.slice none 0 0)) ∨ ∃ cb d' es, 0 < i ∧ v = .sl cb i ∧ nx + 15 ≤ cb ∧ cb < n ∧ getH H' cb = some (.row 81 2 d' es) ∧ es = (o.cores.take i).map Core.av)) ∧ ∀ b, b < nx → getH H' b = getH H b) (fun i => o.cores.length - i) 0 aLess ⟨Nat.zero_le _, aNx, ⟨_, aRow⟩, ⟨_, _, aRow, .inl ⟨rfl, rfl⟩⟩, aKeep⟩ ?_
  rintro i H' n ⟨hi, hn, ⟨d1, r1⟩, ⟨v, d7, r7, hv⟩, hfr⟩
  rcases hv with ⟨rfl, rfl⟩ | ⟨cb, dcb, es, hi0, rfl, hcb1, hcb2, rcb, hes⟩
  · repeat' (first
        | ((with_reducible refine Go.red ?_); conv => whnf)
        | (with_reducible refine Go.and ?_ ?_)
        | (with_reducible exact True.intro)
        | (with_reducible refine Go.far ?_)
        | ((with_reducible refine Apt.mk ?_); (try dsimp only); omega)
        | ((with_reducible refine Ask.mk ?_); first | exact aAsk | exact aAsk2)
        | ((with_reducible refine Go.ari64 ?_ ?_ ?_); (· exact aBnd); (· exact aBnd))
        | ((with_reducible refine Go.ariu8 ?_ ?_ ?_); (· exact aBnd); (· exact aBnd))
        | (with_reducible refine Go.ari0 ?_)
        | (apply Go.elem; (· exact aElem))
        | (apply Go.row; (· exact aRow))
        | (apply Go.gives; (· exact aGives))
        | (apply Go.gives; (· exact aRes))
        | (with_reducible refine Go.unroll ?_)
        | (with_reducible refine Go.drawn ?_)
        | ((with_reducible refine Go.callW (clone_at ho _) ?_ ?_); (· exact aFit))
        | ((with_reducible refine Go.callJ (fun _ => clone_at ho _) ?_ ?_); (· exact aFit))
        | ((with_reducible refine Go.callE (clone_at ho _) ?_ ?_); (· exact aFit))
        | ((with_reducible refine Go.callF (fun _ => clone_at ho _) ?_ ?_); (· exact aFit))
        | (refine Go.gt rfl ?_)
        | (refine Go.gf rfl ?_)
        | (with_reducible refine Go.join ?_)
        | (refine Go.lt' rfl ?_)
        | (refine Go.lf' rfl ?_)
        | ((with_reducible refine Go.bool ?_ ?_) <;> intro hc <;> (try simp only [List.length_map, ne_eq, hcs] at hc) <;> try (exfalso; omega))
        | ((with_reducible refine Res.eq ?_ ?_); (· exact aFit)))
    · refine ⟨0 + 1, by omega, aLess, by omega, aNx, ⟨_, aRow⟩, ⟨_, _, aRow, .inr ⟨n + 14, _, _, by omega, rfl, aNx, aNx, aRow, ?_⟩⟩, (by intro _b _hb; repeat (first | exact hfr _ _hb | exact rfl | (refine Eq.trans (getH_skipEq (by first | omega | (simp only [List.length_cons, List.length_nil]; omega))) ?_)))⟩
      rw [take_map _ (by omega)]; rfl
    refine Go.freshE (es := o.mem.map i64) [] .any (clone_words_mk (by rw [List.length_map]; have := ok.mem; omega)) (fun i hi => by rw [getD_av _ _ _ _ (by simpa using hi)]; trivial) (fun _ _ => rfl) (by simp [fitL, fitA, fitL_map]) ?_
    repeat' (first
        | ((with_reducible refine Go.red ?_); conv => whnf)
        | (with_reducible refine Go.and ?_ ?_)
        | (with_reducible exact True.intro)
        | (with_reducible refine Go.far ?_)
        | ((with_reducible refine Apt.mk ?_); (try dsimp only); omega)
        | ((with_reducible refine Ask.mk ?_); first | exact aAsk | exact aAsk2)
        | ((with_reducible refine Go.ari64 ?_ ?_ ?_); (· exact aBnd); (· exact aBnd))
        | ((with_reducible refine Go.ariu8 ?_ ?_ ?_); (· exact aBnd); (· exact aBnd))
        | (with_reducible refine Go.ari0 ?_)
        | (apply Go.elem; (· exact aElem))
        | (apply Go.row; (· exact aRow))
        | (apply Go.gives; (· exact aGives))
        | (apply Go.gives; (· exact aRes))
        | (with_reducible refine Go.unroll ?_)
        | (with_reducible refine Go.drawn ?_)
        | (refine Go.gt rfl ?_)
        | (refine Go.gf rfl ?_)
        | (with_reducible refine Go.join ?_)
        | (refine Go.lt' rfl ?_)
        | (refine Go.lf' rfl ?_)
        | ((with_reducible refine Go.bool ?_ ?_) <;> intro hc <;> (try simp only [List.length_map, ne_eq, hcs] at hc) <;> try (exfalso; omega))
        | ((with_reducible refine Res.eq ?_ ?_); (· exact aFit)))
    refine ⟨aNx, n + 10, n + 5, n + 8, .sc (.slice none 0 0), rfl, ⟨aNx, aNx⟩, ⟨aNx, aNx⟩, ⟨aNx, aNx⟩, by omega, by omega, by omega, ⟨_, _, aRow, (by simp only [List.length_map, Int.toNat_natCast]; rfl)⟩, ⟨_, _, aRow, (by simp only [List.length_map, Int.toNat_natCast]; rfl)⟩, ⟨_, aRow⟩, .inl ⟨rfl, List.eq_nil_of_length_eq_zero (by omega)⟩, (by intro _b _hb; repeat (first | exact hfr _ _hb | exact rfl | (refine Eq.trans (getH_skipEq (by first | omega | (simp only [List.length_cons, List.length_nil]; omega))) ?_)))⟩
  · have hel : es.length = i := by rw [hes]; simp; omega
    repeat' (first
        | ((with_reducible refine Go.red ?_); conv => whnf)
        | (with_reducible refine Go.and ?_ ?_)
        | (with_reducible exact True.intro)
        | (with_reducible refine Go.far ?_)
        | ((with_reducible refine Apt.mk ?_); (try dsimp only); omega)
        | ((with_reducible refine Ask.mk ?_); first | exact aAsk | exact aAsk2)
        | ((with_reducible refine Go.ari64 ?_ ?_ ?_); (· exact aBnd); (· exact aBnd))
        | ((with_reducible refine Go.ariu8 ?_ ?_ ?_); (· exact aBnd); (· exact aBnd))
        | (with_reducible refine Go.ari0 ?_)
        | (apply Go.elem; (· exact aElem))
        | (apply Go.row; (· exact aRow))
        | (apply Go.gives; (· exact aGives))
        | (apply Go.gives; (· exact aRes))
        | (with_reducible refine Go.unroll ?_)
        | (with_reducible refine Go.drawn ?_)
        | ((with_reducible refine Go.callW (clone_at ho _) ?_ ?_); (· exact aFit))
        | ((with_reducible refine Go.callJ (fun _ => clone_at ho _) ?_ ?_); (· exact aFit))
        | ((with_reducible refine Go.callE (clone_at ho _) ?_ ?_); (· exact aFit))
        | ((with_reducible refine Go.callF (fun _ => clone_at ho _) ?_ ?_); (· exact aFit))
        | (refine Go.gt rfl ?_)
        | (refine Go.gf rfl ?_)
        | (with_reducible refine Go.join ?_)
        | (refine Go.lt' rfl ?_)
        | (refine Go.lf' rfl ?_)
        | ((with_reducible refine Go.bool ?_ ?_) <;> intro hc <;> (try simp only [List.length_map, ne_eq, hcs] at hc) <;> try (exfalso; omega))
        | ((with_reducible refine Res.eq ?_ ?_); (· exact aFit)))
    · refine ⟨i + 1, by omega, aLess, by omega, aNx, ⟨_, aRow⟩, ⟨_, _, aRow, .inr ⟨cb, _, _, by omega, rfl, aNx, aNx, aRow, ?_⟩⟩, (by intro _b _hb; repeat (first | exact hfr _ _hb | exact rfl | (refine Eq.trans (getH_skipEq (by first | omega | (simp only [List.length_cons, List.length_nil]; omega))) ?_)))⟩
      rw [take_map _ (by omega), ← hes]; rfl
    refine Go.freshE (es := o.mem.map i64) [] .any (clone_words_mk (by rw [List.length_map]; have := ok.mem; omega)) (fun i hi => by rw [getD_av _ _ _ _ (by simpa using hi)]; trivial) (fun _ _ => rfl) (by simp [fitL, fitA, fitL_map]) ?_
    repeat' (first
        | ((with_reducible refine Go.red ?_); conv => whnf)
        | (with_reducible refine Go.and ?_ ?_)
        | (with_reducible exact True.intro)
        | (with_reducible refine Go.far ?_)
        | ((with_reducible refine Apt.mk ?_); (try dsimp only); omega)
        | ((with_reducible refine Ask.mk ?_); first | exact aAsk | exact aAsk2)
        | ((with_reducible refine Go.ari64 ?_ ?_ ?_); (· exact aBnd); (· exact aBnd))
        | ((with_reducible refine Go.ariu8 ?_ ?_ ?_); (· exact aBnd); (· exact aBnd))
        | (with_reducible refine Go.ari0 ?_)
        | (apply Go.elem; (· exact aElem))
        | (apply Go.row; (· exact aRow))
        | (apply Go.gives; (· exact aGives))
        | (apply Go.gives; (· exact aRes))
        | (with_reducible refine Go.unroll ?_)
        | (with_reducible refine Go.drawn ?_)
        | (refine Go.gt rfl ?_)
        | (refine Go.gf rfl ?_)
        | (with_reducible refine Go.join ?_)
        | (refine Go.lt' rfl ?_)
        | (refine Go.lf' rfl ?_)
        | ((with_reducible refine Go.bool ?_ ?_) <;> intro hc <;> (try simp only [List.length_map, ne_eq, hcs] at hc) <;> try (exfalso; omega))
        | ((with_reducible refine Res.eq ?_ ?_); (· exact aFit)))
    refine ⟨aNx, n + 10, n + 5, n + 8, .sl cb i, rfl, ⟨aNx, aNx⟩, ⟨aNx, aNx⟩, ⟨aNx, aNx⟩, by omega, by omega, by omega, ⟨_, _, aRow, (by simp only [List.length_map, Int.toNat_natCast]; rfl)⟩, ⟨_, _, aRow, (by simp only [List.length_map, Int.toNat_natCast]; rfl)⟩, ⟨_, aRow⟩, .inr ⟨cb, dcb, by rw [show i = o.cores.length by omega], ⟨by omega, aNx⟩, by omega, by omega, by omega, ?_⟩, (by intro _b _hb; repeat (first | exact hfr _ _hb | exact rfl | (refine Eq.trans (getH_skipEq (by first | omega | (simp only [List.length_cons, List.length_nil]; omega))) ?_)))⟩
    have e : o.cores.map Core.av = es := by rw [hes, List.take_of_length_le (by omega)]
    rw [e]; (repeat (first | exact getH_here _ _ _ | assumption | refine getH_skip (by first | omega | (simp only [List.length_cons, List.length_nil]; omega)) ?_))
end Go.Proofs.Ytliabecchkolgaa
/- A new machine, told as one. -/
namespace Go.Proofs.Ytliabecchkolgaa
open Go Go.Abs Go.Proofs
set_option linter.unusedSimpArgs false
set_option linter.unusedVariables false
theorem AVle.nilIm (c c2 : Cx) (sz : Nat) (d : AV) : AVle c c2 (.sc (.slice none 0 0)) (.im sz d []) := by
  intro v hv
  rw [VR] at hv
  subst hv
  rw [VR]
  exact ⟨none, 0, rfl, by simp, .inl rfl⟩
def Born (o : Obj) (H : Hp) (nx : Nat) : AV → Hp → Nat → Prop := fun r H' n => ∃ L, r = .tup [.pt L.m 1 0 0, i64 0] ∧ MAt o (initM o) L H' n ∧ nx ≤ n ∧ (∀ b ∈ L.ids, nx ≤ b) ∧ ∀ b, b < nx → getH H' b = getH H b
def newLay (o : Obj) (m c mm n : Nat) : Lay := ⟨m, c, mm, n, (List.range o.cores.length).map fun i => n + 1 + i⟩
def newH (o : Obj) (m c mm n : Nat) (H' : Hp) : Hp := (m, some (.row 103 8 .any [machAv o (initM o) (newLay o m c mm n)])) :: (c, some (.row 98 19 .any (rows (initM o) (newLay o m c mm n)))) :: (n, some (.row 75 2 .any [])) :: addB 51 3 (n + 1) o.cores.length H'
theorem newH_at (o : Obj) {m c mm n : Nat} (H' : Hp) (b : Nat) (h1 : b ≠ m) (h2 : b ≠ c) (h3 : b < n) : getH (newH o m c mm n H') b = getH H' b := by
  rw [newH, getH_skipEq h1, getH_skipEq h2, getH_skipEq (by omega), getH_addB, if_neg (by omega)]
theorem newRows (o : Obj) (m c mm n : Nat) : rows (initM o) (newLay o m c mm n) = (List.range o.cores.length).map fun i => core0.av (n + 1 + i) := by
  simp only [rows, initM, newLay]
  apply List.ext_getElem
  · simp
  · intro i h1 h2
    simp
theorem newLay_ids (o : Obj) {m c mm n : Nat} {b : Nat} (h : b ∈ (newLay o m c mm n).ids) : b = m ∨ b = c ∨ b = mm ∨ (n ≤ b ∧ b < n + 1 + o.cores.length) := by
  simp only [newLay, Lay.ids, List.mem_cons, List.mem_map, List.mem_range] at h
  rcases h with h | h | h | h | ⟨i, hi, h⟩
  · exact .inl h
  · exact .inr (.inl h)
  · exact .inr (.inr (.inl h))
  · exact .inr (.inr (.inr (by omega)))
  · exact .inr (.inr (.inr (by omega)))
theorem newMAt (o : Obj) {m c mm n : Nat} {H2 : Hp} {d : AV} (hm : m < n) (hc : c < n) (hmm : mm < n) (a1 : m ≠ c) (a2 : m ≠ mm) (a3 : c ≠ mm)
    (h1 : ∃ d, getH H2 m = some (.row 103 8 d [machAv o (initM o) (newLay o m c mm n)])) (h2 : ∃ d, getH H2 c = some (.row 98 19 d (rows (initM o) (newLay o m c mm n))))
    (h3 : getH H2 mm = some (.row 2 1 d (o.mem.map i64))) (h4 : ∃ d, getH H2 n = some (.row 75 2 d [])) (h5 : ∀ i, i < o.cores.length → ∃ d, getH H2 (n + 1 + i) = some (.row 51 3 d [])) :
    MAt o (initM o) (newLay o m c mm n) H2 (n + 1 + o.cores.length) := by
  refine ⟨h1, h2, ⟨_, h3⟩, h4, ?_, ?_, ?_, ?_⟩
  · intro i hi
    have hi2 : i < o.cores.length := by simpa [initM] using hi
    have e1 : (newLay o m c mm n).bufs.getD i 0 = n + 1 + i := by simp [newLay, List.getD, hi2]
    have e2 : ((initM o).cores.getD i default).buf = [] := by simp [initM, List.getD, hi2, core0]
    rw [e1, e2]; exact h5 i hi2
  · simp [newLay, initM]
  · intro b hb
    rcases newLay_ids o hb with h | h | h | h <;> omega
  · simp only [newLay, Lay.ids, List.nodup_cons, List.mem_cons, not_or, List.mem_map, List.mem_range, not_exists, not_and]
    refine ⟨⟨a1, a2, by omega, fun i hi => by omega⟩, ⟨a3, by omega, fun i hi => by omega⟩, ⟨by omega, fun i hi => by omega⟩, fun i hi => by omega, ?_⟩
    refine List.pairwise_iff_getElem.2 fun i j hi hj hij => ?_
    simp; omega
theorem avle_core {c c2 : Cx} (hle : c.le c2) {b : Nat} (h : AVle c c2 (.sc (.slice none 0 0)) (.sl b 0)) : AVle c c2 zcore (core0.av b) :=
  AVle.agg (.cons (AVle.keep hle _) (.cons (AVle.keep hle _) (.cons (AVle.keep hle _) (.cons (AVle.keep hle _) (.cons (AVle.keep hle _) (.cons (AVle.keep hle _) (.cons (AVle.keep hle _) (.cons (AVle.keep hle _) (.cons (AVle.keep hle _) (.cons (AVle.keep hle _) (.cons (AVle.keep hle _) (.cons (AVle.keep hle _) (.cons (AVle.keep hle _) (.cons (AVle.keep hle _) (.cons (AVle.keep hle _) (.cons (AVle.keep hle _) (.cons (AVle.keep hle _) (.cons (AVle.keep hle _) (.cons h .nil)))))))))))))))))))
theorem new_tell {o : Obj} {m c mm n : Nat} {H' Hd : Hp} {v : AV} (hm : m < n) (hc : c < n) (hmm : mm < n) (a1 : m ≠ c) (a2 : m ≠ mm) (a3 : c ≠ mm)
    (r1 : ∃ d, getH H' m = some (.row 103 8 d [.agg [.sc (.slice none 0 0), i64 o.shared, i64 o.locks, i64 o.buffer, v, .sl c o.cores.length, .sl mm o.mem.length, .sc (.slice none 0 0)]]))
    (r2 : ∃ d, getH H' c = some (.row 98 19 d (List.replicate o.cores.length zcore)))
    (hd : ∀ b, getH Hd b = getH H' b ∨ getH Hd b = none)
    (hv2 : ∀ (w0 : World) (x x2 : Cx), Sim w0 x → x.H = getH H' → x2.w = x.w → x.le x2 → (∀ b k blk p z, getH H' b = some k → getH (newH o m c mm n Hd) b = none → x.ρ b = some (blk, p, z) → ¬ x2.M blk) → AVle x x2 v (.im 2 .any (o.cores.map Core.av))) :
    Wk (.tup [.pt m 1 0 0, i64 0]) H' n (.tup [.pt m 1 0 0, i64 0]) (newH o m c mm n Hd) (n + 1 + o.cores.length) := by
  obtain ⟨d1, r1⟩ := r1
  obtain ⟨d2, r2⟩ := r2
  have look : ∀ b, getH (newH o m c mm n Hd) b = if b = m then some (.row 103 8 .any [machAv o (initM o) (newLay o m c mm n)]) else if b = c then some (.row 98 19 .any (rows (initM o) (newLay o m c mm n))) else if b = n then some (.row 75 2 .any []) else if n + 1 ≤ b ∧ b < n + 1 + o.cores.length then some (.row 51 3 .any []) else getH Hd b := by
    intro b
    rw [newH]
    by_cases h1 : b = m
    · subst h1; rw [getH_here, if_pos rfl]
    rw [getH_skipEq h1, if_neg h1]
    by_cases h2 : b = c
    · subst h2; rw [getH_here, if_pos rfl]
    rw [getH_skipEq h2, if_neg h2]
    by_cases h3 : b = n
    · subst h3; rw [getH_here, if_pos rfl]
    rw [getH_skipEq h3, if_neg h3, getH_addB]
  refine Wk.tell (by omega) (fun b e sz d es he => ?_) (fun w0 x x2 hS hU hx hx2 hw hle hnew hM => ⟨AVle.keep hle _, fun b e sz d es d0 es0 he he0 => ?_⟩)
  · rw [look] at he
    by_cases h1 : b = m
    · subst h1; rw [if_pos rfl] at he; cases he
      exact .inl ⟨_, _, r1, rfl⟩
    rw [if_neg h1] at he
    by_cases h2 : b = c
    · subst h2; rw [if_pos rfl] at he; cases he
      exact .inl ⟨_, _, r2, by rw [newRows]; simp⟩
    rw [if_neg h2] at he
    by_cases h3 : b = n
    · subst h3; rw [if_pos rfl] at he; cases he
      exact .inr ⟨by omega, by omega, rfl, by omega⟩
    rw [if_neg h3] at he
    by_cases h4 : n + 1 ≤ b ∧ b < n + 1 + o.cores.length
    · rw [if_pos h4] at he; cases he
      exact .inr ⟨by omega, by omega, rfl, by omega⟩
    rw [if_neg h4] at he
    rcases hd b with h5 | h5
    · rw [h5] at he; exact .inl ⟨_, _, he, rfl⟩
    · rw [h5] at he; cases he
  · have hnil : ∀ b, (b = n ∨ (n + 1 ≤ b ∧ b < n + 1 + o.cores.length)) → AVle x x2 (.sc (.slice none 0 0)) (.sl b 0) := by
      intro b hb
      have hb2 : ∃ e sz, 0 < sz ∧ getH (newH o m c mm n Hd) b = some (.row e sz .any []) := by
        rw [look, if_neg (by omega), if_neg (by omega)]
        rcases hb with h | h
        · rw [if_pos h]; exact ⟨_, 2, by omega, rfl⟩
        · rw [if_neg (by omega), if_pos h]; exact ⟨_, 3, by omega, rfl⟩
      obtain ⟨e, sz, _, hb3⟩ := hb2
      obtain ⟨g1, g2⟩ := hnew b e sz .any (by omega) hb3
      exact AVle.nil g1 (by rw [hx2]; exact hb3) g2
    rw [look] at he
    by_cases h1 : b = m
    · subst h1; rw [if_pos rfl] at he; cases he
      rw [r1] at he0; cases he0
      have hlen : (initM o).cores.length = o.cores.length := by simp [initM]
      rw [machAv, hlen]
      exact .cons (AVle.agg (.cons (AVle.keep hle _) (.cons (AVle.keep hle _) (.cons (AVle.keep hle _) (.cons (AVle.keep hle _) (.cons (hv2 w0 x x2 hS hx hw hle hM) (.cons (AVle.keep hle _) (.cons (AVle.keep hle _) (.cons (hnil n (.inl rfl)) .nil))))))))) .nil
    rw [if_neg h1] at he
    by_cases h2 : b = c
    · subst h2; rw [if_pos rfl] at he; cases he
      rw [r2] at he0; cases he0
      rw [newRows]
      refine AVles.of_get (by simp) fun i hi => ?_
      have hi2 : i < o.cores.length := by simpa using hi
      have e1 : (List.replicate o.cores.length zcore).getD i .any = zcore := by simp [List.getD, hi2]
      have e2 : ((List.range o.cores.length).map fun i => core0.av (n + 1 + i)).getD i .any = core0.av (n + 1 + i) := by simp [List.getD, hi2]
      rw [e1, e2]
      exact avle_core hle (hnil _ (.inr ⟨by omega, by omega⟩))
    rw [if_neg h2] at he
    by_cases h3 : b = n
    · subst h3; rw [if_pos rfl] at he; cases he
      have := hU b (hS.row b _ _ _ _ (by rw [hx]; exact he0)).1
      omega
    rw [if_neg h3] at he
    by_cases h4 : n + 1 ≤ b ∧ b < n + 1 + o.cores.length
    · rw [if_pos h4] at he; cases he
      have := hU b (hS.row b _ _ _ _ (by rw [hx]; exact he0)).1
      omega
    rw [if_neg h4] at he
    rcases hd b with h5 | h5
    · rw [h5, he0] at he; cases he; exact AVles.keep hle _
    · rw [h5] at he; cases he
theorem born {o : Obj} {m c mm n nx : Nat} {H Hd : Hp} (hn : nx ≤ n) (hm : nx ≤ m ∧ m < n) (hc : nx ≤ c ∧ c < n) (hmm : nx ≤ mm ∧ mm < n) (a1 : m ≠ c) (a2 : m ≠ mm) (a3 : c ≠ mm) (r3 : ∃ d, getH Hd mm = some (.row 2 1 d (o.mem.map i64))) (hf : ∀ b, b < nx → getH Hd b = getH H b) :
    Born o H nx (.tup [.pt m 1 0 0, i64 0]) (newH o m c mm n Hd) (n + 1 + o.cores.length) := by
  obtain ⟨d3, r3⟩ := r3
  have look : ∀ b, getH (newH o m c mm n Hd) b = if b = m then some (.row 103 8 .any [machAv o (initM o) (newLay o m c mm n)]) else if b = c then some (.row 98 19 .any (rows (initM o) (newLay o m c mm n))) else if b = n then some (.row 75 2 .any []) else if n + 1 ≤ b ∧ b < n + 1 + o.cores.length then some (.row 51 3 .any []) else getH Hd b := by
    intro b
    rw [newH]
    by_cases h1 : b = m
    · subst h1; rw [getH_here, if_pos rfl]
    rw [getH_skipEq h1, if_neg h1]
    by_cases h2 : b = c
    · subst h2; rw [getH_here, if_pos rfl]
    rw [getH_skipEq h2, if_neg h2]
    by_cases h3 : b = n
    · subst h3; rw [getH_here, if_pos rfl]
    rw [getH_skipEq h3, if_neg h3, getH_addB]
  refine ⟨newLay o m c mm n, rfl, ?_, by omega, fun b hb => ?_, fun b hb => ?_⟩
  · have r3b : getH (newH o m c mm n Hd) mm = some (.row 2 1 d3 (o.mem.map i64)) := by
      rw [look, if_neg (Ne.symm a2), if_neg (Ne.symm a3), if_neg (by omega), if_neg (by omega)]; exact r3
    refine newMAt (d := d3) o hm.2 hc.2 hmm.2 a1 a2 a3 ⟨_, by rw [look, if_pos rfl]⟩ ⟨_, by rw [look, if_neg (Ne.symm a1), if_pos rfl]⟩ r3b ⟨_, by rw [look, if_neg (by omega), if_neg (by omega), if_pos rfl]⟩ (fun i hi => ⟨_, by rw [look, if_neg (by omega), if_neg (by omega), if_neg (by omega), if_pos (by omega)]⟩)
  · rcases newLay_ids o hb with h | h | h | h <;> omega
  · rw [look, if_neg (by omega), if_neg (by omega), if_neg (by omega), if_neg (by omega)]; exact hf b hb
theorem new_ok {o : Obj} (ho : o.Wf) (ok : ObjOk o) (h : objOk o = true) {H : Hp} {nx : Nat} : CallN Try.prog 33 [o.av] H nx (Born o H nx) := by
  refine (new_ok0 ho ok h).wk ?_
  rintro r H' n ⟨hn, m, c, mm, v, rfl, hm, hc, hmm, a1, a2, a3, ⟨d1, _, r1, rfl⟩, ⟨d2, _, r2, rfl⟩, ⟨d3, r3⟩, hv, hf⟩
  rcases hv with ⟨rfl, hoc⟩ | ⟨cb, d4, rfl, hcb, b1, b2, b3, r4⟩
  · refine ⟨_, _, _, new_tell (Hd := H') hm.2 hc.2 hmm.2 a1 a2 a3 ⟨_, r1⟩ ⟨_, r2⟩ (fun b => .inl rfl) (fun w0 x x2 _ _ _ _ _ => ?_), born hn hm hc hmm a1 a2 a3 ⟨_, r3⟩ hf⟩
    rw [hoc]; exact AVle.nilIm _ _ _ _
  · refine ⟨_, _, _, new_tell (Hd := (cb, none) :: H') hm.2 hc.2 hmm.2 a1 a2 a3 ⟨_, r1⟩ ⟨_, r2⟩ (fun b => ?_) (fun w0 x x2 hS hx hw hle hM => ?_), born hn hm hc hmm a1 a2 a3 ⟨d3, by rw [getH_skipEq (Ne.symm b3)]; exact r3⟩ (fun b hb => by rw [getH_skipEq (by omega)]; exact hf b hb)⟩
    · by_cases hb : b = cb
      · subst hb; exact .inr (getH_here _ _ _)
      · exact .inl (getH_skipEq hb)
    · have hl : o.cores.length = (o.cores.map Core.av).length := by simp
      rw [hl]
      refine AVle.im hS hle .any hw (by rw [hx]; exact r4) (fun blk p z hρ => hM cb _ blk p z r4 ?_ hρ)
      rw [newH_at o _ _ b1 b2 hcb.2, getH_here]
end Go.Proofs.Ytliabecchkolgaa
