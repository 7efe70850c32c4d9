/- The document's answers; copies of executions. -/
import Derived.Test.YtncllkpekbapjaaOx
import Derived.Test.YtncllkpekbapjaaOm
import Derived.Test.YtncllkpekbapjaaAbsZ
namespace Go.Proofs.Ytncllkpekbapjaa
open Go Go.Abs Go.Proofs
set_option linter.unusedSimpArgs false
set_option linter.unusedVariables false
@[simp] theorem fit_imF (n : Nat) (l : List Int) : fitA n (imF l) := by simp [imF, fitA, fitL, fitL_map]
theorem le_lstF (c : Cx) (l : List Int) : AVle c c (lstAv l) (imF l) := by
  unfold lstAv
  split
  · rename_i h; subst h; exact AVle.nilIm c c 1 _
  · exact fun _ h => h
theorem rline_pure (x : Exec) (h : Fine x) (k : Int) (hk : k = 1 ∨ k = 2 ∨ k = 3) : Pure Try.prog 35 [x.av, i64 k] (fun r => r = .tup [imF ((lineK x k).getD []), bl (lineK x k).isSome]) := by
  refine weak_pure (a := .tup [lstAv ((lineK x k).getD []), bl (lineK x k).isSome]) ?_ (by simp [fitA, fitL, imF, fitL_map]) (fun c => AVle.tup (.cons (le_lstF c _) (AVles.refl c _)))
  refine pure_of_call ((rline_call x h k hk).mono ?_) ?_
  · rintro r H n ⟨s, rfl, hs⟩
    simp only [frz, List.map_cons, List.map_nil]
    rw [hs.frz]
  · simp only [fitA, fitL, lstAv]
    split <;> simp [fitA, fitL, fitL_map]
theorem lineK_some (x : Exec) (k : Int) : (lineK x k).isSome = !ringB x.events.length (arrM x (kindF x k)) := line_ring arr_lt
set_option maxHeartbeats 2000000 in
theorem rlineT_pure (x : Exec) (hx : x.Wf) : Pure Try.prog 22 [x.av] (fun r => r = .tup [imF (if okB x = true then (lineK x 2).getD [] else []), bl (plainB x), i64 (errN x)]) := by
  have hck := rcheck_pure x hx
  cases hok : okB x with
  | true =>
    have h := fine_of hx hok
    have hl := rline_pure x h 2 (.inr (.inl rfl))
    have e : plainB x = (lineK x 2).isSome := by rw [lineK_some, kind2]; simp [plainB, hok]
    have e2 : errN x = 0 := by simp [errN, hok]
    rw [okB_true hok] at hck
    rw [e, e2, if_pos rfl]
    generalize lineK x 2 = L at *
    generalize L.isSome = B at *
    refine Go.pure Try.func22 nm22 low22 res22 nt22 rfl ?_
    repeat' (first | ((with_reducible refine Go.red ?_); conv => whnf) | with_reducible (first | refine Go.and ?_ ?_ | exact True.intro | refine Go.far ?_ | exact Go.askRep | refine Go.unroll ?_ | refine Go.drawn ?_) | ((with_reducible refine Apt.mk ?_); (try dsimp only); omega) | ((with_reducible refine Ask.mk ?_); first | exact aAsk | exact aAsk2) | ((with_reducible refine Go.ari64 ?_ ?_ ?_); (· exact aBnd); (· exact aBnd)) | ((with_reducible refine Go.ariu8 ?_ ?_ ?_); (· exact aBnd); (· exact aBnd)) | (with_reducible refine Go.ari0 ?_) | (apply Go.elem; (· exact aElem)) | (apply Go.row; (· exact aRow)) | (apply Go.map; (· exact aRow)) | (apply Go.gives; (· exact aGives)) | (apply Go.gives; (· exact aRes)) | ((with_reducible refine Go.callW (hck) ?_ ?_); (· exact aFit)) | ((with_reducible refine Go.callJ (fun _ => hck) ?_ ?_); (· exact aFit)) | ((with_reducible refine Go.callE (hck) ?_ ?_); (· exact aFit)) | ((with_reducible refine Go.callF (fun _ => hck) ?_ ?_); (· exact aFit)) | ((with_reducible refine Go.callW (hl) ?_ ?_); (· exact aFit)) | ((with_reducible refine Go.callJ (fun _ => hl) ?_ ?_); (· exact aFit)) | ((with_reducible refine Go.callE (hl) ?_ ?_); (· exact aFit)) | ((with_reducible refine Go.callF (fun _ => hl) ?_ ?_); (· exact aFit)) | (refine Go.gt rfl ?_) | (refine Go.gf rfl ?_) | (with_reducible refine Go.join ?_) | (refine Go.lt' rfl ?_) | (refine Go.lf' rfl ?_) | ((with_reducible refine Go.bool ?_ ?_) <;> intro hc <;> (try simp only [List.length_map, ne_eq, hcs] at hc) <;> try (exfalso; omega)) | ((with_reducible refine Res.eq ?_ ?_); (· exact aFit)))
    exact rfl
  | false =>
    have e : plainB x = false := by simp [plainB, hok]
    have e2 : errN x = 220 := by simp [errN, hok]
    rw [okB_false hok] at hck
    rw [e, e2, if_neg (by decide)]
    refine weak_pure (a := .tup [.sc (.slice none 0 0), bl false, i64 220]) ?_ (by simp [fitA, fitL, imF, fitL_map]) (fun c => AVle.tup (.cons (le_lstF c []) (AVles.refl c _)))
    refine Go.pure Try.func22 nm22 low22 res22 nt22 rfl ?_
    repeat' (first | ((with_reducible refine Go.red ?_); conv => whnf) | with_reducible (first | refine Go.and ?_ ?_ | exact True.intro | refine Go.far ?_ | exact Go.askRep | refine Go.unroll ?_ | refine Go.drawn ?_) | ((with_reducible refine Apt.mk ?_); (try dsimp only); omega) | ((with_reducible refine Ask.mk ?_); first | exact aAsk | exact aAsk2) | ((with_reducible refine Go.ari64 ?_ ?_ ?_); (· exact aBnd); (· exact aBnd)) | ((with_reducible refine Go.ariu8 ?_ ?_ ?_); (· exact aBnd); (· exact aBnd)) | (with_reducible refine Go.ari0 ?_) | (apply Go.elem; (· exact aElem)) | (apply Go.row; (· exact aRow)) | (apply Go.map; (· exact aRow)) | (apply Go.gives; (· exact aGives)) | (apply Go.gives; (· exact aRes)) | ((with_reducible refine Go.callW (hck) ?_ ?_); (· exact aFit)) | ((with_reducible refine Go.callJ (fun _ => hck) ?_ ?_); (· exact aFit)) | ((with_reducible refine Go.callE (hck) ?_ ?_); (· exact aFit)) | ((with_reducible refine Go.callF (fun _ => hck) ?_ ?_); (· exact aFit)) | (refine Go.gt rfl ?_) | (refine Go.gf rfl ?_) | (with_reducible refine Go.join ?_) | (refine Go.lt' rfl ?_) | (refine Go.lf' rfl ?_) | ((with_reducible refine Go.bool ?_ ?_) <;> intro hc <;> (try simp only [List.length_map, ne_eq, hcs] at hc) <;> try (exfalso; omega)) | ((with_reducible refine Res.eq ?_ ?_); (· exact aFit)))
    exact rfl
end Go.Proofs.Ytncllkpekbapjaa
