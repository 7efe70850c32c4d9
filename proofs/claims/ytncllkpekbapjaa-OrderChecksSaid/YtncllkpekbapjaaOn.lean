/- What is plain is tso, what is tso is coherent. -/
import Derived.Test.YtncllkpekbapjaaOm
namespace Go.Proofs.Ytncllkpekbapjaa
open Go Go.Abs Go.Proofs
set_option linter.unusedSimpArgs false
set_option linter.unusedVariables false

theorem warsh_mono {M M' : Mat} (h : ∀ a b, M a b = true → M' a b = true) : ∀ (n a b : Nat), warsh n M a b = true → warsh n M' a b = true
  | 0, a, b, hw => h a b hw
  | n + 1, a, b, hw => by
    have ih := warsh_mono h n
    simp only [warsh, step1, Bool.or_eq_true, Bool.and_eq_true] at hw ⊢
    rcases hw with hw | ⟨h1, h2⟩
    · exact .inl (ih _ _ hw)
    · exact .inr ⟨ih _ _ h1, ih _ _ h2⟩
theorem ring_mono {n : Nat} {M M' : Mat} (h : ∀ a b, M a b = true → M' a b = true) (hr : ringB n M = true) : ringB n M' = true := by
  simp only [ringB, List.any_eq_true, List.mem_range] at hr ⊢
  obtain ⟨k, hk, hw⟩ := hr
  exact ⟨k, hk, warsh_mono h n k k hw⟩
theorem arr_mono {x : Exec} {cf cf' : Int → Nat → Nat → Bool} (h : ∀ k a b, cf k a b = true → cf' k a b = true) (a b : Nat) (hm : arrM x cf a b = true) : arrM x cf' a b = true := by
  simp only [arrM, arrK, Bool.and_eq_true, List.any_eq_true, List.mem_range] at hm ⊢
  obtain ⟨h1, h2, k, hk, h3, h4⟩ := hm
  exact ⟨h1, h2, k, hk, h3, h _ _ _ h4⟩
theorem free_of_plain {x : Exec} (cf : Int → Nat → Nat → Bool) (h : ringB x.events.length (arrM x fun _ _ _ => true) = false) : ringB x.events.length (arrM x cf) = false := by
  cases hr : ringB x.events.length (arrM x cf) with
  | false => rfl
  | true =>
    have := ring_mono (fun a b hm => arr_mono (cf' := fun _ _ _ => true) (fun _ _ _ _ => rfl) a b hm) hr
    rw [h] at this; cases this
theorem tso_of_plain {x : Exec} (h : plainB x = true) : tsoB x = true := by
  simp only [plainB, Bool.and_eq_true, Bool.not_eq_true'] at h
  simp only [tsoB, cohB, Bool.and_eq_true, Bool.not_eq_true']
  exact ⟨h.1, ⟨h.1, free_of_plain _ h.2⟩, free_of_plain _ h.2⟩
theorem coh_of_tso {x : Exec} (h : tsoB x = true) : cohB x = true := by
  simp only [tsoB, Bool.and_eq_true] at h
  exact h.2.1
theorem coh_err {x : Exec} (h : cohB x = true) : errN x = 0 := by
  simp only [cohB, Bool.and_eq_true] at h
  simp [errN, h.1]
set_option maxHeartbeats 2000000 in
theorem within_pure (x : Exec) (hx : x.Wf) : Pure Try.prog 4 [x.av] (fun r => r = bl true) := by
  refine Go.pure Try.func4 nm4 low4 res4 nt4 rfl ?_
  have h1 := plain_pure x hx
  have h2 := tso_pure x hx
  have h3 := coherent_pure x hx
  have hp : plainB x = true → tsoB x = true := tso_of_plain
  have hc : tsoB x = true → cohB x = true := coh_of_tso
  have he : cohB x = true → errN x = 0 := coh_err
  generalize plainB x = P at *
  generalize tsoB x = T at *
  generalize cohB x = C at *
  generalize errN x = E at *
  repeat' (first
    | ((with_reducible refine Go.red ?_); conv => whnf)
    | (with_reducible refine Go.and ?_ ?_)
    | (with_reducible exact True.intro)
    | (with_reducible refine Go.far ?_)
    | ((with_reducible refine Apt.mk ?_); (try dsimp only); omega)
    | (with_reducible exact Go.askRep)
    | ((with_reducible refine Ask.mk ?_); first | exact aAsk | exact aAsk2)
    | ((with_reducible refine Go.ari64 ?_ ?_ ?_); (· exact aBnd); (· exact aBnd))
    | ((with_reducible refine Go.ariu8 ?_ ?_ ?_); (· exact aBnd); (· exact aBnd))
    | (with_reducible refine Go.ari0 ?_)
    | (apply Go.elem; (· exact aElem))
    | (apply Go.row; (· exact aRow))
    | (apply Go.map; (· exact aRow))
    | (apply Go.gives; (· exact aGives))
    | (apply Go.gives; (· exact aRes))
    | (with_reducible refine Go.unroll ?_)
    | (with_reducible refine Go.drawn ?_)
    | ((with_reducible refine Go.callW (begins_pure) ?_ ?_); (· exact aFit))
    | ((with_reducible refine Go.callJ (fun _ => begins_pure) ?_ ?_); (· exact aFit))
    | ((with_reducible refine Go.callE (begins_pure) ?_ ?_); (· exact aFit))
    | ((with_reducible refine Go.callF (fun _ => begins_pure) ?_ ?_); (· exact aFit))
    | ((with_reducible refine Go.callW (h1) ?_ ?_); (· exact aFit))
    | ((with_reducible refine Go.callJ (fun _ => h1) ?_ ?_); (· exact aFit))
    | ((with_reducible refine Go.callE (h1) ?_ ?_); (· exact aFit))
    | ((with_reducible refine Go.callF (fun _ => h1) ?_ ?_); (· exact aFit))
    | ((with_reducible refine Go.callW (h2) ?_ ?_); (· exact aFit))
    | ((with_reducible refine Go.callJ (fun _ => h2) ?_ ?_); (· exact aFit))
    | ((with_reducible refine Go.callE (h2) ?_ ?_); (· exact aFit))
    | ((with_reducible refine Go.callF (fun _ => h2) ?_ ?_); (· exact aFit))
    | ((with_reducible refine Go.callW (h3) ?_ ?_); (· exact aFit))
    | ((with_reducible refine Go.callJ (fun _ => h3) ?_ ?_); (· exact aFit))
    | ((with_reducible refine Go.callE (h3) ?_ ?_); (· exact aFit))
    | ((with_reducible refine Go.callF (fun _ => h3) ?_ ?_); (· exact aFit))
    | (refine Go.gt rfl ?_)
    | (refine Go.gf rfl ?_)
    | (with_reducible refine Go.join ?_)
    | (refine Go.lt' rfl ?_)
    | (refine Go.lf' rfl ?_)
    | ((with_reducible refine Go.bool ?_ ?_) <;> intro hc <;> (try simp only [List.length_map, ne_eq, hcs] at hc) <;> try (exfalso; omega))
    | ((with_reducible refine Res.eq ?_ ?_); (· exact aFit)))
  · simp at hc
  · cases P <;> cases T <;> cases C <;> simp_all
end Go.Proofs.Ytncllkpekbapjaa
