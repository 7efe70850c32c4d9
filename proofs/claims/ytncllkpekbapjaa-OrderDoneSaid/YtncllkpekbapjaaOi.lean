/- The heap of what may come next. -/
import Derived.Test.YtncllkpekbapjaaOh
namespace Go.Proofs.Ytncllkpekbapjaa
open Go Go.Abs Go.Proofs
set_option linter.unusedSimpArgs false
set_option linter.unusedVariables false
def swapL (l : List Int) (i j : Nat) : List Int := (l.set i (l.getD j 0)).set j (l.getD i 0)
theorem swapL_len (l : List Int) (i j : Nat) : (swapL l i j).length = l.length := by simp [swapL]
theorem set_get {l : List Int} {i j : Nat} {v : Int} (d : AV) (h : j < l.length) : ((l.map i64).set i (i64 v)).getD j d = i64 ((l.set i v).getD j 0) := by
  rw [← List.map_set]
  exact getD_av i64 _ _ _ (by simpa using h)
theorem set_map {l : List Int} {i : Nat} {v : Int} : (l.map i64).set i (i64 v) = (l.set i v).map i64 := by rw [List.map_set]
structure HpAt (R q : Nat) (l : List Int) (H : Hp) : Prop where
  r : ∃ d, getH H R = some (.row 61 1 d [.sl q l.length])
  s : ∃ d, getH H q = some (.row 3 1 d (l.map i64))
  ne : R ≠ q
abbrev hpV (R : Nat) : AV := .ifc 60 (.pt R 1 0 0)
theorem mLen : methT Try.prog 60 "Len" = some (42, some (61, false, 1)) := by kernel_rfl
theorem mLess : methT Try.prog 60 "Less" = some (92, some (61, false, 1)) := by kernel_rfl
theorem mSwap : methT Try.prog 60 "Swap" = some (95, some (61, false, 1)) := by kernel_rfl
theorem mPush : methT Try.prog 60 "Push" = some (94, none) := by kernel_rfl
theorem mPop : methT Try.prog 60 "Pop" = some (93, none) := by kernel_rfl
theorem goLen {R : Nat} {v : AV} {bs : List AV} {H : Hp} {nx : Nat} {K : AV → Hp → Nat → Prop} (hl : lookA H (.pt R 1 0 0) = some (1, v, 0)) (hr : ldE false 1 v 1 0 = some v) (h : CallW Try.prog 42 (v :: bs) H nx K) : MethW Try.prog 60 (.pt R 1 0 0) "Len" bs H nx K := Go.meth1 mLen hl hr h
theorem goLess {R : Nat} {v : AV} {bs : List AV} {H : Hp} {nx : Nat} {K : AV → Hp → Nat → Prop} (hl : lookA H (.pt R 1 0 0) = some (1, v, 0)) (hr : ldE false 1 v 1 0 = some v) (h : CallW Try.prog 92 (v :: bs) H nx K) : MethW Try.prog 60 (.pt R 1 0 0) "Less" bs H nx K := Go.meth1 mLess hl hr h
theorem goSwap {R : Nat} {v : AV} {bs : List AV} {H : Hp} {nx : Nat} {K : AV → Hp → Nat → Prop} (hl : lookA H (.pt R 1 0 0) = some (1, v, 0)) (hr : ldE false 1 v 1 0 = some v) (h : CallW Try.prog 95 (v :: bs) H nx K) : MethW Try.prog 60 (.pt R 1 0 0) "Swap" bs H nx K := Go.meth1 mSwap hl hr h
theorem goPush {R : Nat} {bs : List AV} {H : Hp} {nx : Nat} {K : AV → Hp → Nat → Prop} (h : CallW Try.prog 94 (.pt R 1 0 0 :: bs) H nx K) : MethW Try.prog 60 (.pt R 1 0 0) "Push" bs H nx K := Go.meth0 mPush h
theorem goPop {R : Nat} {bs : List AV} {H : Hp} {nx : Nat} {K : AV → Hp → Nat → Prop} (h : CallW Try.prog 93 (.pt R 1 0 0 :: bs) H nx K) : MethW Try.prog 60 (.pt R 1 0 0) "Pop" bs H nx K := Go.meth0 mPop h
theorem HpAt.look {R q : Nat} {l : List Int} {H : Hp} (h : HpAt R q l H) : lookA H (.pt R 1 0 0) = some (1, .sl q l.length, 0) := by
  obtain ⟨d, hd⟩ := h.r
  simp [lookA, hd]
theorem len_look (q : Nat) (l : List Int) (H : Hp) (nx : Nat) (d : AV) (hs : getH H q = some (.row 3 1 d (l.map i64))) : Look Try.prog 42 [.sl q l.length] H nx (i64 l.length) := by
  refine Go.lookAt Try.func42 nm42 low42 res42 nt42 rfl ?_
  repeat' (first | ((with_reducible refine Go.red ?_); conv => whnf) | with_reducible (first | refine Go.and ?_ ?_ | exact True.intro | refine Go.far ?_ | exact Go.askRep | refine Go.unroll ?_ | refine Go.drawn ?_) | ((with_reducible refine Apt.mk ?_); (try dsimp only); omega) | ((with_reducible refine Ask.mk ?_); first | exact aAsk | exact aAsk2) | ((with_reducible refine Go.ari64 ?_ ?_ ?_); (· exact aBnd); (· exact aBnd)) | ((with_reducible refine Go.ariu8 ?_ ?_ ?_); (· exact aBnd); (· exact aBnd)) | (with_reducible refine Go.ari0 ?_) | (apply Go.elem; (· exact aElem)) | (apply Go.row; (· exact aRow)) | (apply Go.map; (· exact aRow)) | (apply Go.gives; (· exact aGives)) | (apply Go.gives; (· exact aRes)) | (refine Go.gt rfl ?_) | (refine Go.gf rfl ?_) | (with_reducible refine Go.join ?_) | (refine Go.lt' rfl ?_) | (refine Go.lf' rfl ?_) | ((with_reducible refine Go.bool ?_ ?_) <;> intro hc <;> (try simp only [List.length_map, ne_eq, hcs] at hc) <;> try (exfalso; omega)) | ((with_reducible refine Res.eq ?_ ?_); (· exact aFit)))
  exact ⟨⟨rfl, fun _ _ => rfl⟩⟩
theorem less_look (q : Nat) (l : List Int) (H : Hp) (nx : Nat) (d : AV) (hs : getH H q = some (.row 3 1 d (l.map i64))) (i j : Nat) (hi : i < l.length) (hj : j < l.length) :
    Look Try.prog 92 [.sl q l.length, i64 i, i64 j] H nx (bl (decide (l.getD i 0 < l.getD j 0))) := by
  refine Go.lookAt Try.func92 nm92 low92 res92 nt92 rfl ?_
  repeat' (first | ((with_reducible refine Go.red ?_); conv => whnf) | with_reducible (first | refine Go.and ?_ ?_ | exact True.intro | refine Go.far ?_ | exact Go.askRep | refine Go.unroll ?_ | refine Go.drawn ?_) | ((with_reducible refine Apt.mk ?_); (try dsimp only); omega) | ((with_reducible refine Ask.mk ?_); first | exact aAsk | exact aAsk2) | ((with_reducible refine Go.ari64 ?_ ?_ ?_); (· exact aBnd); (· exact aBnd)) | ((with_reducible refine Go.ariu8 ?_ ?_ ?_); (· exact aBnd); (· exact aBnd)) | (with_reducible refine Go.ari0 ?_) | (apply Go.elem; (· (first | exact getD_av _ _ _ _ (by omega) | exact aElem))) | (apply Go.row; (· exact aRow)) | (apply Go.map; (· exact aRow)) | (apply Go.gives; (· exact aGives)) | (apply Go.gives; (· exact aRes)) | (refine Go.gt rfl ?_) | (refine Go.gf rfl ?_) | (with_reducible refine Go.join ?_) | (refine Go.lt' rfl ?_) | (refine Go.lf' rfl ?_) | ((with_reducible refine Go.bool ?_ ?_) <;> intro hc <;> (try simp only [List.length_map, ne_eq, hcs] at hc) <;> try (exfalso; omega)) | ((with_reducible refine Res.eq ?_ ?_); (· exact aFit)))
  exact ⟨⟨rfl, fun _ _ => rfl⟩⟩
theorem swap_call (q : Nat) (l : List Int) (H : Hp) (nx : Nat) (d : AV) (hs : getH H q = some (.row 3 1 d (l.map i64))) (i j : Nat) (hi : i < l.length) (hj : j < l.length) (hq : q < nx) :
    CallN Try.prog 95 [.sl q l.length, i64 i, i64 j] H nx (fun r H' nx' => nx ≤ nx' ∧ getH H' q = some (.row 3 1 d ((swapL l i j).map i64)) ∧ ∀ y, y < nx → y ≠ q → getH H' y = getH H y) := by
  refine Go.fn Try.func95 nm95 low95 res95 nt95 rfl ?_
  repeat' (first | ((with_reducible refine Go.red ?_); conv => whnf) | with_reducible (first | refine Go.and ?_ ?_ | exact True.intro | refine Go.far ?_ | exact Go.askRep | refine Go.unroll ?_ | refine Go.drawn ?_) | ((with_reducible refine Apt.mk ?_); (try dsimp only); omega) | ((with_reducible refine Ask.mk ?_); first | exact aAsk | exact aAsk2) | ((with_reducible refine Go.ari64 ?_ ?_ ?_); (· exact aBnd); (· exact aBnd)) | ((with_reducible refine Go.ariu8 ?_ ?_ ?_); (· exact aBnd); (· exact aBnd)) | (with_reducible refine Go.ari0 ?_) | (apply Go.elem; (· (first | exact set_get _ (by omega) | exact getD_av _ _ _ _ (by omega) | exact aElem))) | (apply Go.row; (· exact aRow)) | (apply Go.map; (· exact aRow)) | (apply Go.gives; (· exact aGives)) | (apply Go.gives; (· exact aRes)) | (refine Go.gt rfl ?_) | (refine Go.gf rfl ?_) | (with_reducible refine Go.join ?_) | (refine Go.lt' rfl ?_) | (refine Go.lf' rfl ?_) | ((with_reducible refine Go.bool ?_ ?_) <;> intro hc <;> (try simp only [List.length_map, ne_eq, hcs] at hc) <;> try (exfalso; omega)) | ((with_reducible refine Res.eq ?_ ?_); (· exact aFit)))
  refine ⟨⟨aNx, ?_, fun y hy hne => ?_⟩⟩
  · simp only [swapL, ← set_map]
    exact aRow
  · repeat (first | exact rfl | (refine Eq.trans (getH_skipEq hne) ?_))
def HpTo (R q : Nat) (l : List Int) (H : Hp) (nx : Nat) (H' : Hp) (nx' : Nat) : Prop := nx ≤ nx' ∧ HpAt R q l H' ∧ ∀ y, y < nx → y ≠ R → y ≠ q → getH H' y = getH H y
theorem push_call (R q : Nat) (l : List Int) (k : Int) (H : Hp) (nx : Nat) (h : HpAt R q l H) (hR : R < nx) (hq : q < nx) (hl : l.length < 1000) :
    CallN Try.prog 94 [.pt R 1 0 0, .ifc 3 (i64 k)] H nx (fun r H' nx' => HpTo R q (l ++ [k]) H nx H' nx') := by
  obtain ⟨⟨dR, hr⟩, ⟨dq, hs⟩, hne⟩ := h
  refine Go.fn Try.func94 nm94 low94 res94 nt94 rfl ?_
  repeat' (first | ((with_reducible refine Go.red ?_); conv => whnf) | with_reducible (first | refine Go.and ?_ ?_ | exact True.intro | refine Go.far ?_ | exact Go.askRep | refine Go.unroll ?_ | refine Go.drawn ?_) | ((with_reducible refine Apt.mk ?_); (try dsimp only); omega) | ((with_reducible refine Ask.mk ?_); first | exact aAsk | exact aAsk2) | ((with_reducible refine Go.ari64 ?_ ?_ ?_); (· exact aBnd); (· exact aBnd)) | ((with_reducible refine Go.ariu8 ?_ ?_ ?_); (· exact aBnd); (· exact aBnd)) | (with_reducible refine Go.ari0 ?_) | (apply Go.elem; (· (first | exact getD_av _ _ _ _ (by omega) | exact aElem))) | (apply Go.row; (· exact aRow)) | (apply Go.map; (· exact aRow)) | (apply Go.gives; (· exact aGives)) | (apply Go.gives; (· exact aRes)) | (refine Go.gt rfl ?_) | (refine Go.gf rfl ?_) | (with_reducible refine Go.join ?_) | (refine Go.lt' rfl ?_) | (refine Go.lf' rfl ?_) | ((with_reducible refine Go.bool ?_ ?_) <;> intro hc <;> (try simp only [List.length_map, ne_eq, hcs] at hc) <;> try (exfalso; omega)) | ((with_reducible refine Res.eq ?_ ?_); (· exact aFit)))
  refine ⟨⟨aNx, ⟨⟨dR, ?_⟩, ⟨dq, ?_⟩, hne⟩, fun y hy n1 n2 => ?_⟩⟩
  · simp only [List.length_append, List.length_cons, List.length_nil]
    exact aRow
  · rw [List.map_append]
    exact aRow
  · repeat (first | exact rfl | (refine Eq.trans (getH_skipEq (by omega)) ?_))
theorem bnd_pred {d n : Nat} {k : IntKind} (h : 0 < n) : bndA d (some (.sc (.int k ((n : Int) - 1)))) = some (n - 1) := by
  simp only [bndA]
  rw [if_pos (by omega)]
  congr 1
  omega
theorem Wk.any_res {r : AV} {H H2 : Hp} {nx nx2 : Nat} (h : Wk .any H nx .any H2 nx2) : Wk r H nx r H2 nx2 := by
  intro w0 ρ U w M0 hU hS
  obtain ⟨ρ2, U2, k1, k2, k3, _⟩ := h w0 ρ U w M0 hU hS
  exact ⟨ρ2, U2, k1, k2, k3, AVle.keep k3 r⟩
theorem pop_call0 (R q : Nat) (l : List Int) (H : Hp) (nx : Nat) (dR dq : AV) (hr : getH H R = some (.row 61 1 dR [.sl q l.length])) (hs : getH H q = some (.row 3 1 dq (l.map i64))) (hne : R ≠ q) (hR : R < nx) (hq : q < nx) (hl : l.length < 1000) (h0 : 0 < l.length) :
    CallN Try.prog 93 [.pt R 1 0 0] H nx (fun r H' nx' => r = .ifc 3 (i64 (l.getD (l.length - 1) 0)) ∧ nx ≤ nx' ∧ getH H' R = some (.row 61 1 dR [.sv q l.length 0 (l.length - 1)]) ∧ getH H' q = some (.row 3 1 dq (l.map i64)) ∧ ∀ y, y < nx → y ≠ R → getH H' y = getH H y) := by
  refine Go.fn Try.func93 nm93 low93 res93 nt93 rfl ?_
  repeat' (first | ((with_reducible refine Go.red ?_); conv => whnf) | with_reducible (first | refine Go.and ?_ ?_ | exact True.intro | refine Go.far ?_ | exact Go.askRep | refine Go.unroll ?_ | refine Go.drawn ?_) | ((with_reducible refine Apt.mk ?_); (try dsimp only); omega) | ((with_reducible refine Ask.mk ?_); first | exact aAsk | exact aAsk2) | ((with_reducible refine Go.ari64 ?_ ?_ ?_); (· exact aBnd); (· exact aBnd)) | ((with_reducible refine Go.ariu8 ?_ ?_ ?_); (· exact aBnd); (· exact aBnd)) | (with_reducible refine Go.ari0 ?_) | (apply Go.elem; (· (first | exact getD_av _ _ _ _ (by omega) | exact aElem))) | (apply Go.row; (· exact aRow)) | (apply Go.map; (· exact aRow)) | (apply Go.gives; (· exact aGives)) | (apply Go.gives; (· exact slc_sl aRow (by simp) rfl (bnd_pred h0) (by omega))) | (apply Go.gives; (· exact aRes)) | (refine Go.gt rfl ?_) | (refine Go.gf rfl ?_) | (with_reducible refine Go.join ?_) | (refine Go.lt' rfl ?_) | (refine Go.lf' rfl ?_) | ((with_reducible refine Go.bool ?_ ?_) <;> intro hc <;> (try simp only [List.length_map, ne_eq, hcs] at hc) <;> try (exfalso; omega)) | ((with_reducible refine Res.eq ?_ ?_); (· exact aFit)))
  refine ⟨⟨?_, aNx, ?_, aRow, fun y hy n1 => ?_⟩⟩
  · have : ((l.length : Int) - 1).toNat = l.length - 1 := by omega
    rw [this]; rfl
  · exact aRow
  · repeat (first | exact rfl | (refine Eq.trans (getH_skipEq (by omega)) ?_))
theorem pop_call (R q : Nat) (l : List Int) (H : Hp) (nx : Nat) (h : HpAt R q l H) (hR : R < nx) (hq : q < nx) (hl : l.length < 1000) (h0 : 0 < l.length) :
    CallN Try.prog 93 [.pt R 1 0 0] H nx (fun r H' nx' => r = .ifc 3 (i64 (l.getD (l.length - 1) 0)) ∧ ∃ q', HpAt R q' (l.take (l.length - 1)) H' ∧ nx ≤ nx' ∧ nx ≤ q' ∧ q' < nx' ∧ ∀ y, y < nx → y ≠ R → y ≠ q → getH H' y = getH H y) := by
  obtain ⟨⟨dR, hr⟩, ⟨dq, hs⟩, hne⟩ := h
  refine (pop_call0 R q l H nx dR dq hr hs hne hR hq hl h0).wk ?_
  rintro r H1 n1 ⟨rfl, hn1, r1, r2, hfr⟩
  have hw := Wk.part (nx := n1) (q := 0) r1 (by simp) rfl r2 (by simp) (by omega) (Ne.symm hne)
  refine ⟨_, _, _, Wk.any_res hw, rfl, n1, ⟨⟨.any, ?_⟩, ⟨.any, ?_⟩, by omega⟩, by omega, by omega, by omega, fun y hy n1 n2 => ?_⟩
  · have e : (l.take (l.length - 1)).length = l.length - 1 := by simp
    rw [e]
    exact aRow
  · rw [List.drop_zero, ← List.map_take]
    exact aRow
  · repeat (first | exact hfr y hy n1 | (refine Eq.trans (getH_skipEq (by omega)) ?_))
end Go.Proofs.Ytncllkpekbapjaa
