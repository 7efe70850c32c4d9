/- The heap: a number comes in; the least goes out. -/
import Derived.Test.YtncllkpekbapjaaOj
namespace Go.Proofs.Ytncllkpekbapjaa
open Go Go.Abs Go.Proofs
set_option linter.unusedSimpArgs false
set_option linter.unusedVariables false

def pushS (l : List Int) (k : Int) : List Int := upF (l.length + 1) (l ++ [k]) l.length
def sunk (l : List Int) : List Int := downF (l.length - 1 + 1) (swapL l 0 (l.length - 1)) 0 (l.length - 1)
def popN (l : List Int) : Int := (sunk l).getD (l.length - 1) 0
def popL (l : List Int) : List Int := (sunk l).take (l.length - 1)
theorem sunk_len (l : List Int) : (sunk l).length = l.length := by rw [sunk, downF_len, swapL_len]
set_option maxHeartbeats 4000000 in
theorem heap_push (R q : Nat) (l : List Int) (k : Int) (H : Hp) (nx : Nat) (h : HpAt R q l H) (hR : R < nx) (hq : q < nx) (hl : l.length < 900) :
    CallN Try.prog 41 [hpV R, .ifc 3 (i64 k)] H nx (fun r H' nx' => HpTo R q (pushS l k) H nx H' nx') := by
  refine Go.fn Try.func41 nm41 low41 res41 nt41 rfl ?_
  repeat' (first
    | ((with_reducible refine Go.red ?_); conv => whnf)
    | (with_reducible refine Go.and ?_ ?_)
    | (with_reducible exact True.intro)
    | (with_reducible refine Go.far ?_)
    | ((with_reducible refine Apt.mk ?_); (try dsimp only); omega)
    | (with_reducible exact Go.askRep)
    | ((with_reducible refine Ask.mk ?_); first | exact aAsk | exact aAsk2)
    | ((with_reducible refine Go.ari64 ?_ ?_ ?_); (· exact aBnd); (· exact aBnd))
    | ((with_reducible refine Go.ariu8 ?_ ?_ ?_); (· exact aBnd); (· exact aBnd))
    | (with_reducible refine Go.ari0 ?_)
    | (apply Go.elem; (· exact aElem))
    | (apply Go.row; (· exact aRow))
    | (apply Go.map; (· exact aRow))
    | (apply Go.gives; (· exact aGives))
    | (apply Go.gives; (· exact aRes))
    | (with_reducible refine Go.unroll ?_)
    | (with_reducible refine Go.drawn ?_)
    | ((with_reducible apply goPush))
    | (refine Go.gt rfl ?_)
    | (refine Go.gf rfl ?_)
    | (with_reducible refine Go.join ?_)
    | (refine Go.lt' rfl ?_)
    | (refine Go.lf' rfl ?_)
    | ((with_reducible refine Go.bool ?_ ?_) <;> intro hc <;> (try simp only [List.length_map, ne_eq, hcs] at hc) <;> try (exfalso; omega))
    | ((with_reducible refine Res.eq ?_ ?_); (· exact aFit)))
  refine Go.callN (push_call R q l k _ _ h (by omega) (by omega) (by omega)) ?_
  rintro _ H1 n1 ⟨hn1, hp1, hfr1⟩
  obtain ⟨d1, hs1⟩ := hp1.s
  have hlook := hp1.look
  have e1 : (((l ++ [k]).length : Nat) : Int) - 1 = (l.length : Int) := by simp
  repeat' (first
      | ((with_reducible refine Go.red ?_); conv => whnf)
      | (with_reducible refine Go.and ?_ ?_)
      | (with_reducible exact True.intro)
      | (with_reducible refine Go.far ?_)
      | ((with_reducible refine Apt.mk ?_); (try dsimp only); omega)
      | (with_reducible exact Go.askRep)
      | ((with_reducible refine Ask.mk ?_); first | exact aAsk | exact aAsk2)
      | ((with_reducible refine Go.ari64 ?_ ?_ ?_); (· exact aBnd); (· exact aBnd))
      | ((with_reducible refine Go.ariu8 ?_ ?_ ?_); (· exact aBnd); (· exact aBnd))
      | (with_reducible refine Go.ari0 ?_)
      | (apply Go.elem; (· exact aElem))
      | (apply Go.row; (· exact aRow))
      | (apply Go.map; (· exact aRow))
      | (apply Go.gives; (· exact aGives))
      | (apply Go.gives; (· exact aRes))
      | (with_reducible refine Go.unroll ?_)
      | (with_reducible refine Go.drawn ?_)
      | ((refine Go.lookW ((len_look q (l ++ [k]) _ _ d1 hs1)) ?_ ?_); (· exact True.intro))
      | ((refine Go.lookJ (fun _ => (len_look q (l ++ [k]) _ _ d1 hs1)) ?_ ?_); (· exact True.intro))
      | ((with_reducible apply goLen); (· exact hlook); (· exact rfl))
      | (simp only [e1])
      | (refine Go.gt rfl ?_)
      | (refine Go.gf rfl ?_)
      | (with_reducible refine Go.join ?_)
      | (refine Go.lt' rfl ?_)
      | (refine Go.lf' rfl ?_)
      | ((with_reducible refine Go.bool ?_ ?_) <;> intro hc <;> (try simp only [List.length_map, ne_eq, hcs] at hc) <;> try (exfalso; omega))
      | ((with_reducible refine Res.eq ?_ ?_); (· exact aFit)))
  refine Go.callN (up_call R q (l ++ [k]) l.length _ _ hp1 (by omega) (by omega) (by simp; omega) (by simp)) ?_
  rintro _ H2 n2 ⟨hn2, hp2, hfr2⟩
  repeat' (first
      | ((with_reducible refine Go.red ?_); conv => whnf)
      | (with_reducible refine Go.and ?_ ?_)
      | (with_reducible exact True.intro)
      | (with_reducible refine Go.far ?_)
      | ((with_reducible refine Apt.mk ?_); (try dsimp only); omega)
      | (with_reducible exact Go.askRep)
      | ((with_reducible refine Ask.mk ?_); first | exact aAsk | exact aAsk2)
      | ((with_reducible refine Go.ari64 ?_ ?_ ?_); (· exact aBnd); (· exact aBnd))
      | ((with_reducible refine Go.ariu8 ?_ ?_ ?_); (· exact aBnd); (· exact aBnd))
      | (with_reducible refine Go.ari0 ?_)
      | (apply Go.elem; (· exact aElem))
      | (apply Go.row; (· exact aRow))
      | (apply Go.map; (· exact aRow))
      | (apply Go.gives; (· exact aGives))
      | (apply Go.gives; (· exact aRes))
      | (with_reducible refine Go.unroll ?_)
      | (with_reducible refine Go.drawn ?_)
      | (refine Go.gt rfl ?_)
      | (refine Go.gf rfl ?_)
      | (with_reducible refine Go.join ?_)
      | (refine Go.lt' rfl ?_)
      | (refine Go.lf' rfl ?_)
      | ((with_reducible refine Go.bool ?_ ?_) <;> intro hc <;> (try simp only [List.length_map, ne_eq, hcs] at hc) <;> try (exfalso; omega))
      | ((with_reducible refine Res.eq ?_ ?_); (· exact aFit)))
  exact ⟨⟨aNx, hp2, fun y hy a b => (hfr2 y (by omega) a b).trans (hfr1 y (by omega) a b)⟩⟩
set_option maxHeartbeats 4000000 in
theorem heap_pop (R q : Nat) (l : List Int) (H : Hp) (nx : Nat) (h : HpAt R q l H) (hR : R < nx) (hq : q < nx) (hl : l.length < 900) (h0 : 0 < l.length) :
    CallN Try.prog 43 [hpV R] H nx (fun r H' nx' => r = .ifc 3 (i64 (popN l)) ∧ ∃ q', HpAt R q' (popL l) H' ∧ nx ≤ nx' ∧ nx ≤ q' ∧ q' < nx' ∧ ∀ y, y < nx → y ≠ R → y ≠ q → getH H' y = getH H y) := by
  refine Go.fn Try.func43 nm43 low43 res43 nt43 rfl ?_
  obtain ⟨d0, hs0⟩ := h.s
  have hlook := h.look
  have e1 : ((l.length : Nat) : Int) - 1 = ((l.length - 1 : Nat) : Int) := by omega
  repeat' (first
    | ((with_reducible refine Go.red ?_); conv => whnf)
    | (with_reducible refine Go.and ?_ ?_)
    | (with_reducible exact True.intro)
    | (with_reducible refine Go.far ?_)
    | ((with_reducible refine Apt.mk ?_); (try dsimp only); omega)
    | (with_reducible exact Go.askRep)
    | ((with_reducible refine Ask.mk ?_); first | exact aAsk | exact aAsk2)
    | ((with_reducible refine Go.ari64 ?_ ?_ ?_); (· exact aBnd); (· exact aBnd))
    | ((with_reducible refine Go.ariu8 ?_ ?_ ?_); (· exact aBnd); (· exact aBnd))
    | (with_reducible refine Go.ari0 ?_)
    | (apply Go.elem; (· exact aElem))
    | (apply Go.row; (· exact aRow))
    | (apply Go.map; (· exact aRow))
    | (apply Go.gives; (· exact aGives))
    | (apply Go.gives; (· exact aRes))
    | (with_reducible refine Go.unroll ?_)
    | (with_reducible refine Go.drawn ?_)
    | ((refine Go.lookW ((len_look q l _ _ d0 hs0)) ?_ ?_); (· exact True.intro))
    | ((refine Go.lookJ (fun _ => (len_look q l _ _ d0 hs0)) ?_ ?_); (· exact True.intro))
    | ((with_reducible apply goLen); (· exact hlook); (· exact rfl))
    | ((with_reducible apply goSwap); (· exact hlook); (· exact rfl))
    | (simp only [e1])
    | (refine Go.gt rfl ?_)
    | (refine Go.gf rfl ?_)
    | (with_reducible refine Go.join ?_)
    | (refine Go.lt' rfl ?_)
    | (refine Go.lf' rfl ?_)
    | ((with_reducible refine Go.bool ?_ ?_) <;> intro hc <;> (try simp only [List.length_map, ne_eq, hcs] at hc) <;> try (exfalso; omega))
    | ((with_reducible refine Res.eq ?_ ?_); (· exact aFit)))
  refine Go.callN (swap_call q l _ _ d0 hs0 0 (l.length - 1) h0 (by omega) (by omega)) ?_
  rintro _ H1 n1 ⟨hn1, hs1, hfr1⟩
  have hp1 := h.swap (swapL_len l 0 (l.length - 1)) hs1 hfr1 (by omega)
  repeat' (first
      | ((with_reducible refine Go.red ?_); conv => whnf)
      | (with_reducible refine Go.and ?_ ?_)
      | (with_reducible exact True.intro)
      | (with_reducible refine Go.far ?_)
      | ((with_reducible refine Apt.mk ?_); (try dsimp only); omega)
      | (with_reducible exact Go.askRep)
      | ((with_reducible refine Ask.mk ?_); first | exact aAsk | exact aAsk2)
      | ((with_reducible refine Go.ari64 ?_ ?_ ?_); (· exact aBnd); (· exact aBnd))
      | ((with_reducible refine Go.ariu8 ?_ ?_ ?_); (· exact aBnd); (· exact aBnd))
      | (with_reducible refine Go.ari0 ?_)
      | (apply Go.elem; (· exact aElem))
      | (apply Go.row; (· exact aRow))
      | (apply Go.map; (· exact aRow))
      | (apply Go.gives; (· exact aGives))
      | (apply Go.gives; (· exact aRes))
      | (with_reducible refine Go.unroll ?_)
      | (with_reducible refine Go.drawn ?_)
      | (refine Go.gt rfl ?_)
      | (refine Go.gf rfl ?_)
      | (with_reducible refine Go.join ?_)
      | (refine Go.lt' rfl ?_)
      | (refine Go.lf' rfl ?_)
      | ((with_reducible refine Go.bool ?_ ?_) <;> intro hc <;> (try simp only [List.length_map, ne_eq, hcs] at hc) <;> try (exfalso; omega))
      | ((with_reducible refine Res.eq ?_ ?_); (· exact aFit)))
  refine Go.callN (down_call R q (swapL l 0 (l.length - 1)) 0 (l.length - 1) _ _ hp1 (by omega) (by omega) (by rw [swapL_len]; omega) (by rw [swapL_len]; omega) (by rw [swapL_len]; omega)) ?_
  rintro _ H2 n2 ⟨hn2, hp2, hfr2⟩
  repeat' (first
      | ((with_reducible refine Go.red ?_); conv => whnf)
      | (with_reducible refine Go.and ?_ ?_)
      | (with_reducible exact True.intro)
      | (with_reducible refine Go.far ?_)
      | ((with_reducible refine Apt.mk ?_); (try dsimp only); omega)
      | (with_reducible exact Go.askRep)
      | ((with_reducible refine Ask.mk ?_); first | exact aAsk | exact aAsk2)
      | ((with_reducible refine Go.ari64 ?_ ?_ ?_); (· exact aBnd); (· exact aBnd))
      | ((with_reducible refine Go.ariu8 ?_ ?_ ?_); (· exact aBnd); (· exact aBnd))
      | (with_reducible refine Go.ari0 ?_)
      | (apply Go.elem; (· exact aElem))
      | (apply Go.row; (· exact aRow))
      | (apply Go.map; (· exact aRow))
      | (apply Go.gives; (· exact aGives))
      | (apply Go.gives; (· exact aRes))
      | (with_reducible refine Go.unroll ?_)
      | (with_reducible refine Go.drawn ?_)
      | ((with_reducible apply goPop))
      | (refine Go.gt rfl ?_)
      | (refine Go.gf rfl ?_)
      | (with_reducible refine Go.join ?_)
      | (refine Go.lt' rfl ?_)
      | (refine Go.lf' rfl ?_)
      | ((with_reducible refine Go.bool ?_ ?_) <;> intro hc <;> (try simp only [List.length_map, ne_eq, hcs] at hc) <;> try (exfalso; omega))
      | ((with_reducible refine Res.eq ?_ ?_); (· exact aFit)))
  have hsl := sunk_len l
  refine Go.callN (pop_call R q (sunk l) _ _ hp2 (by omega) (by omega) (by omega) (by omega)) ?_
  rintro _ H3 n3 ⟨rfl, q3, hp3, hn3, hq3, hq4, hfr3⟩
  rw [hsl] at hp3 ⊢
  repeat' (first
      | ((with_reducible refine Go.red ?_); conv => whnf)
      | (with_reducible refine Go.and ?_ ?_)
      | (with_reducible exact True.intro)
      | (with_reducible refine Go.far ?_)
      | ((with_reducible refine Apt.mk ?_); (try dsimp only); omega)
      | (with_reducible exact Go.askRep)
      | ((with_reducible refine Ask.mk ?_); first | exact aAsk | exact aAsk2)
      | ((with_reducible refine Go.ari64 ?_ ?_ ?_); (· exact aBnd); (· exact aBnd))
      | ((with_reducible refine Go.ariu8 ?_ ?_ ?_); (· exact aBnd); (· exact aBnd))
      | (with_reducible refine Go.ari0 ?_)
      | (apply Go.elem; (· exact aElem))
      | (apply Go.row; (· exact aRow))
      | (apply Go.map; (· exact aRow))
      | (apply Go.gives; (· exact aGives))
      | (apply Go.gives; (· exact aRes))
      | (with_reducible refine Go.unroll ?_)
      | (with_reducible refine Go.drawn ?_)
      | (refine Go.gt rfl ?_)
      | (refine Go.gf rfl ?_)
      | (with_reducible refine Go.join ?_)
      | (refine Go.lt' rfl ?_)
      | (refine Go.lf' rfl ?_)
      | ((with_reducible refine Go.bool ?_ ?_) <;> intro hc <;> (try simp only [List.length_map, ne_eq, hcs] at hc) <;> try (exfalso; omega))
      | ((with_reducible refine Res.eq ?_ ?_); (· exact aFit)))
  exact ⟨⟨rfl, q3, hp3, aNx, by omega, aNx, fun y hy a b => (hfr3 y (by omega) a b).trans ((hfr2 y (by omega) a b).trans (hfr1 y (by omega) b))⟩⟩
end Go.Proofs.Ytncllkpekbapjaa
