/- The document's answers; copies of executions. -/
import Derived.Test.YtncllkpekbapjaaOx
import Derived.Test.YtncllkpekbapjaaOm
import Derived.Test.YtncllkpekbapjaaAbsZ
namespace Go.Proofs.Ytncllkpekbapjaa
open Go Go.Abs Go.Proofs
set_option linter.unusedSimpArgs false
set_option linter.unusedVariables false

@[simp] theorem fit_imF (n : Nat) (l : List Int) : fitA n (imF l) := by simp [imF, fitA, fitL, fitL_map]
theorem le_lstF (c : Cx) (l : List Int) : AVle c c (lstAv l) (imF l) := by
  unfold lstAv
  split
  · rename_i h; subst h; exact AVle.nilIm c c 1 _
  · exact fun _ h => h
theorem rline_pure (x : Exec) (h : Fine x) (k : Int) (hk : k = 1 ∨ k = 2 ∨ k = 3) : Pure Try.prog 35 [x.av, i64 k] (fun r => r = .tup [imF ((lineK x k).getD []), bl (lineK x k).isSome]) := by
  refine weak_pure (a := .tup [lstAv ((lineK x k).getD []), bl (lineK x k).isSome]) ?_ (by simp [fitA, fitL, imF, fitL_map]) (fun c => AVle.tup (.cons (le_lstF c _) (AVles.refl c _)))
  refine pure_of_call ((rline_call x h k hk).mono ?_) ?_
  · rintro r H n ⟨s, rfl, hs⟩
    simp only [frz, List.map_cons, List.map_nil]
    rw [hs.frz]
  · simp only [fitA, fitL, lstAv]
    split <;> simp [fitA, fitL, fitL_map]
theorem lineK_some (x : Exec) (k : Int) : (lineK x k).isSome = !ringB x.events.length (arrM x (kindF x k)) := line_ring arr_lt
set_option maxHeartbeats 2000000 in
theorem rcoherent_pure (x : Exec) (hx : x.Wf) : Pure Try.prog 13 [x.av] (fun r => r = .tup [bl (cohB x), i64 (errN x)]) := by
  refine Go.pure Try.func13 nm13 low13 res13 nt13 rfl ?_
  have hck := rcheck_pure x hx
  cases hok : okB x with
  | true =>
    have h := fine_of hx hok
    have hl := rline_pure x h 1 (.inl rfl)
    have e : cohB x = (lineK x 1).isSome := by rw [lineK_some, kind1]; simp [cohB, hok]
    have e2 : errN x = 0 := by simp [errN, hok]
    rw [okB_true hok] at hck
    rw [e, e2]
    generalize lineK x 1 = L at *
    generalize L.isSome = B at *
    repeat' (first
    | ((with_reducible refine Go.red ?_); conv => whnf)
    | (with_reducible refine Go.and ?_ ?_)
    | (with_reducible exact True.intro)
    | (with_reducible refine Go.far ?_)
    | ((with_reducible refine Apt.mk ?_); (try dsimp only); omega)
    | (with_reducible exact Go.askRep)
    | ((with_reducible refine Ask.mk ?_); first | exact aAsk | exact aAsk2)
    | ((with_reducible refine Go.ari64 ?_ ?_ ?_); (· exact aBnd); (· exact aBnd))
    | ((with_reducible refine Go.ariu8 ?_ ?_ ?_); (· exact aBnd); (· exact aBnd))
    | (with_reducible refine Go.ari0 ?_)
    | (apply Go.elem; (· exact aElem))
    | (apply Go.row; (· exact aRow))
    | (apply Go.map; (· exact aRow))
    | (apply Go.gives; (· exact aGives))
    | (apply Go.gives; (· exact aRes))
    | (with_reducible refine Go.unroll ?_)
    | (with_reducible refine Go.drawn ?_)
    | ((with_reducible refine Go.callW (hck) ?_ ?_); (· exact aFit))
    | ((with_reducible refine Go.callJ (fun _ => hck) ?_ ?_); (· exact aFit))
    | ((with_reducible refine Go.callE (hck) ?_ ?_); (· exact aFit))
    | ((with_reducible refine Go.callF (fun _ => hck) ?_ ?_); (· exact aFit))
    | ((with_reducible refine Go.callW (hl) ?_ ?_); (· exact aFit))
    | ((with_reducible refine Go.callJ (fun _ => hl) ?_ ?_); (· exact aFit))
    | ((with_reducible refine Go.callE (hl) ?_ ?_); (· exact aFit))
    | ((with_reducible refine Go.callF (fun _ => hl) ?_ ?_); (· exact aFit))
    | (refine Go.gt rfl ?_)
    | (refine Go.gf rfl ?_)
    | (with_reducible refine Go.join ?_)
    | (refine Go.lt' rfl ?_)
    | (refine Go.lf' rfl ?_)
    | ((with_reducible refine Go.bool ?_ ?_) <;> intro hc <;> (try simp only [List.length_map, ne_eq, hcs] at hc) <;> try (exfalso; omega))
    | ((with_reducible refine Res.eq ?_ ?_); (· exact aFit)))
    exact rfl
  | false =>
    have e : cohB x = false := by simp [cohB, hok]
    have e2 : errN x = 220 := by simp [errN, hok]
    rw [okB_false hok] at hck
    rw [e, e2]
    repeat' (first
    | ((with_reducible refine Go.red ?_); conv => whnf)
    | (with_reducible refine Go.and ?_ ?_)
    | (with_reducible exact True.intro)
    | (with_reducible refine Go.far ?_)
    | ((with_reducible refine Apt.mk ?_); (try dsimp only); omega)
    | (with_reducible exact Go.askRep)
    | ((with_reducible refine Ask.mk ?_); first | exact aAsk | exact aAsk2)
    | ((with_reducible refine Go.ari64 ?_ ?_ ?_); (· exact aBnd); (· exact aBnd))
    | ((with_reducible refine Go.ariu8 ?_ ?_ ?_); (· exact aBnd); (· exact aBnd))
    | (with_reducible refine Go.ari0 ?_)
    | (apply Go.elem; (· exact aElem))
    | (apply Go.row; (· exact aRow))
    | (apply Go.map; (· exact aRow))
    | (apply Go.gives; (· exact aGives))
    | (apply Go.gives; (· exact aRes))
    | (with_reducible refine Go.unroll ?_)
    | (with_reducible refine Go.drawn ?_)
    | ((with_reducible refine Go.callW (hck) ?_ ?_); (· exact aFit))
    | ((with_reducible refine Go.callJ (fun _ => hck) ?_ ?_); (· exact aFit))
    | ((with_reducible refine Go.callE (hck) ?_ ?_); (· exact aFit))
    | ((with_reducible refine Go.callF (fun _ => hck) ?_ ?_); (· exact aFit))
    | (refine Go.gt rfl ?_)
    | (refine Go.gf rfl ?_)
    | (with_reducible refine Go.join ?_)
    | (refine Go.lt' rfl ?_)
    | (refine Go.lf' rfl ?_)
    | ((with_reducible refine Go.bool ?_ ?_) <;> intro hc <;> (try simp only [List.length_map, ne_eq, hcs] at hc) <;> try (exfalso; omega))
    | ((with_reducible refine Res.eq ?_ ?_); (· exact aFit)))
    exact rfl
set_option maxHeartbeats 2000000 in
theorem rlineT_pure (x : Exec) (hx : x.Wf) : Pure Try.prog 22 [x.av] (fun r => r = .tup [imF (if okB x = true then (lineK x 2).getD [] else []), bl (plainB x), i64 (errN x)]) := by
  have hck := rcheck_pure x hx
  cases hok : okB x with
  | true =>
    have h := fine_of hx hok
    have hl := rline_pure x h 2 (.inr (.inl rfl))
    have e : plainB x = (lineK x 2).isSome := by rw [lineK_some, kind2]; simp [plainB, hok]
    have e2 : errN x = 0 := by simp [errN, hok]
    rw [okB_true hok] at hck
    rw [e, e2, if_pos rfl]
    generalize lineK x 2 = L at *
    generalize L.isSome = B at *
    refine Go.pure Try.func22 nm22 low22 res22 nt22 rfl ?_
    repeat' (first
    | ((with_reducible refine Go.red ?_); conv => whnf)
    | (with_reducible refine Go.and ?_ ?_)
    | (with_reducible exact True.intro)
    | (with_reducible refine Go.far ?_)
    | ((with_reducible refine Apt.mk ?_); (try dsimp only); omega)
    | (with_reducible exact Go.askRep)
    | ((with_reducible refine Ask.mk ?_); first | exact aAsk | exact aAsk2)
    | ((with_reducible refine Go.ari64 ?_ ?_ ?_); (· exact aBnd); (· exact aBnd))
    | ((with_reducible refine Go.ariu8 ?_ ?_ ?_); (· exact aBnd); (· exact aBnd))
    | (with_reducible refine Go.ari0 ?_)
    | (apply Go.elem; (· exact aElem))
    | (apply Go.row; (· exact aRow))
    | (apply Go.map; (· exact aRow))
    | (apply Go.gives; (· exact aGives))
    | (apply Go.gives; (· exact aRes))
    | (with_reducible refine Go.unroll ?_)
    | (with_reducible refine Go.drawn ?_)
    | ((with_reducible refine Go.callW (hck) ?_ ?_); (· exact aFit))
    | ((with_reducible refine Go.callJ (fun _ => hck) ?_ ?_); (· exact aFit))
    | ((with_reducible refine Go.callE (hck) ?_ ?_); (· exact aFit))
    | ((with_reducible refine Go.callF (fun _ => hck) ?_ ?_); (· exact aFit))
    | ((with_reducible refine Go.callW (hl) ?_ ?_); (· exact aFit))
    | ((with_reducible refine Go.callJ (fun _ => hl) ?_ ?_); (· exact aFit))
    | ((with_reducible refine Go.callE (hl) ?_ ?_); (· exact aFit))
    | ((with_reducible refine Go.callF (fun _ => hl) ?_ ?_); (· exact aFit))
    | (refine Go.gt rfl ?_)
    | (refine Go.gf rfl ?_)
    | (with_reducible refine Go.join ?_)
    | (refine Go.lt' rfl ?_)
    | (refine Go.lf' rfl ?_)
    | ((with_reducible refine Go.bool ?_ ?_) <;> intro hc <;> (try simp only [List.length_map, ne_eq, hcs] at hc) <;> try (exfalso; omega))
    | ((with_reducible refine Res.eq ?_ ?_); (· exact aFit)))
    exact rfl
  | false =>
    have e : plainB x = false := by simp [plainB, hok]
    have e2 : errN x = 220 := by simp [errN, hok]
    rw [okB_false hok] at hck
    rw [e, e2, if_neg (by decide)]
    refine weak_pure (a := .tup [.sc (.slice none 0 0), bl false, i64 220]) ?_ (by simp [fitA, fitL, imF, fitL_map]) (fun c => AVle.tup (.cons (le_lstF c []) (AVles.refl c _)))
    refine Go.pure Try.func22 nm22 low22 res22 nt22 rfl ?_
    repeat' (first
    | ((with_reducible refine Go.red ?_); conv => whnf)
    | (with_reducible refine Go.and ?_ ?_)
    | (with_reducible exact True.intro)
    | (with_reducible refine Go.far ?_)
    | ((with_reducible refine Apt.mk ?_); (try dsimp only); omega)
    | (with_reducible exact Go.askRep)
    | ((with_reducible refine Ask.mk ?_); first | exact aAsk | exact aAsk2)
    | ((with_reducible refine Go.ari64 ?_ ?_ ?_); (· exact aBnd); (· exact aBnd))
    | ((with_reducible refine Go.ariu8 ?_ ?_ ?_); (· exact aBnd); (· exact aBnd))
    | (with_reducible refine Go.ari0 ?_)
    | (apply Go.elem; (· exact aElem))
    | (apply Go.row; (· exact aRow))
    | (apply Go.map; (· exact aRow))
    | (apply Go.gives; (· exact aGives))
    | (apply Go.gives; (· exact aRes))
    | (with_reducible refine Go.unroll ?_)
    | (with_reducible refine Go.drawn ?_)
    | ((with_reducible refine Go.callW (hck) ?_ ?_); (· exact aFit))
    | ((with_reducible refine Go.callJ (fun _ => hck) ?_ ?_); (· exact aFit))
    | ((with_reducible refine Go.callE (hck) ?_ ?_); (· exact aFit))
    | ((with_reducible refine Go.callF (fun _ => hck) ?_ ?_); (· exact aFit))
    | (refine Go.gt rfl ?_)
    | (refine Go.gf rfl ?_)
    | (with_reducible refine Go.join ?_)
    | (refine Go.lt' rfl ?_)
    | (refine Go.lf' rfl ?_)
    | ((with_reducible refine Go.bool ?_ ?_) <;> intro hc <;> (try simp only [List.length_map, ne_eq, hcs] at hc) <;> try (exfalso; omega))
    | ((with_reducible refine Res.eq ?_ ?_); (· exact aFit)))
    exact rfl
set_option maxHeartbeats 2000000 in
theorem rplain_pure (x : Exec) (hx : x.Wf) : Pure Try.prog 15 [x.av] (fun r => r = .tup [bl (plainB x), i64 (errN x)]) := by
  refine Go.pure Try.func15 nm15 low15 res15 nt15 rfl ?_
  have hl := rlineT_pure x hx
  generalize (if okB x = true then (lineK x 2).getD [] else []) = L at *
  generalize plainB x = B at *
  generalize errN x = E at *
  repeat' (first
    | ((with_reducible refine Go.red ?_); conv => whnf)
    | (with_reducible refine Go.and ?_ ?_)
    | (with_reducible exact True.intro)
    | (with_reducible refine Go.far ?_)
    | ((with_reducible refine Apt.mk ?_); (try dsimp only); omega)
    | (with_reducible exact Go.askRep)
    | ((with_reducible refine Ask.mk ?_); first | exact aAsk | exact aAsk2)
    | ((with_reducible refine Go.ari64 ?_ ?_ ?_); (· exact aBnd); (· exact aBnd))
    | ((with_reducible refine Go.ariu8 ?_ ?_ ?_); (· exact aBnd); (· exact aBnd))
    | (with_reducible refine Go.ari0 ?_)
    | (apply Go.elem; (· exact aElem))
    | (apply Go.row; (· exact aRow))
    | (apply Go.map; (· exact aRow))
    | (apply Go.gives; (· exact aGives))
    | (apply Go.gives; (· exact aRes))
    | (with_reducible refine Go.unroll ?_)
    | (with_reducible refine Go.drawn ?_)
    | ((with_reducible refine Go.callW (hl) ?_ ?_); (· exact aFit))
    | ((with_reducible refine Go.callJ (fun _ => hl) ?_ ?_); (· exact aFit))
    | ((with_reducible refine Go.callE (hl) ?_ ?_); (· exact aFit))
    | ((with_reducible refine Go.callF (fun _ => hl) ?_ ?_); (· exact aFit))
    | (refine Go.gt rfl ?_)
    | (refine Go.gf rfl ?_)
    | (with_reducible refine Go.join ?_)
    | (refine Go.lt' rfl ?_)
    | (refine Go.lf' rfl ?_)
    | ((with_reducible refine Go.bool ?_ ?_) <;> intro hc <;> (try simp only [List.length_map, ne_eq, hcs] at hc) <;> try (exfalso; omega))
    | ((with_reducible refine Res.eq ?_ ?_); (· exact aFit)))
  exact rfl
set_option maxHeartbeats 2000000 in
theorem rtso_pure (x : Exec) (hx : x.Wf) : Pure Try.prog 17 [x.av] (fun r => r = .tup [bl (tsoB x), i64 (errN x)]) := by
  refine Go.pure Try.func17 nm17 low17 res17 nt17 rfl ?_
  have hck := rcoherent_pure x hx
  cases hok : okB x with
  | true =>
    have h := fine_of hx hok
    have e2 : errN x = 0 := by simp [errN, hok]
    rw [e2] at hck ⊢
    cases hco : cohB x with
    | true =>
      have hl := rline_pure x h 3 (.inr (.inr rfl))
      have e : tsoB x = (lineK x 3).isSome := by rw [lineK_some, kind3]; simp [tsoB, hok, hco]
      rw [hco] at hck
      rw [e]
      generalize lineK x 3 = L at *
      generalize L.isSome = B at *
      repeat' (first
    | ((with_reducible refine Go.red ?_); conv => whnf)
    | (with_reducible refine Go.and ?_ ?_)
    | (with_reducible exact True.intro)
    | (with_reducible refine Go.far ?_)
    | ((with_reducible refine Apt.mk ?_); (try dsimp only); omega)
    | (with_reducible exact Go.askRep)
    | ((with_reducible refine Ask.mk ?_); first | exact aAsk | exact aAsk2)
    | ((with_reducible refine Go.ari64 ?_ ?_ ?_); (· exact aBnd); (· exact aBnd))
    | ((with_reducible refine Go.ariu8 ?_ ?_ ?_); (· exact aBnd); (· exact aBnd))
    | (with_reducible refine Go.ari0 ?_)
    | (apply Go.elem; (· exact aElem))
    | (apply Go.row; (· exact aRow))
    | (apply Go.map; (· exact aRow))
    | (apply Go.gives; (· exact aGives))
    | (apply Go.gives; (· exact aRes))
    | (with_reducible refine Go.unroll ?_)
    | (with_reducible refine Go.drawn ?_)
    | ((with_reducible refine Go.callW (hck) ?_ ?_); (· exact aFit))
    | ((with_reducible refine Go.callJ (fun _ => hck) ?_ ?_); (· exact aFit))
    | ((with_reducible refine Go.callE (hck) ?_ ?_); (· exact aFit))
    | ((with_reducible refine Go.callF (fun _ => hck) ?_ ?_); (· exact aFit))
    | ((with_reducible refine Go.callW (hl) ?_ ?_); (· exact aFit))
    | ((with_reducible refine Go.callJ (fun _ => hl) ?_ ?_); (· exact aFit))
    | ((with_reducible refine Go.callE (hl) ?_ ?_); (· exact aFit))
    | ((with_reducible refine Go.callF (fun _ => hl) ?_ ?_); (· exact aFit))
    | (refine Go.gt rfl ?_)
    | (refine Go.gf rfl ?_)
    | (with_reducible refine Go.join ?_)
    | (refine Go.lt' rfl ?_)
    | (refine Go.lf' rfl ?_)
    | ((with_reducible refine Go.bool ?_ ?_) <;> intro hc <;> (try simp only [List.length_map, ne_eq, hcs] at hc) <;> try (exfalso; omega))
    | ((with_reducible refine Res.eq ?_ ?_); (· exact aFit)))
      exact rfl
    | false =>
      have e : tsoB x = false := by simp [tsoB, hco]
      rw [hco] at hck
      rw [e]
      repeat' (first
    | ((with_reducible refine Go.red ?_); conv => whnf)
    | (with_reducible refine Go.and ?_ ?_)
    | (with_reducible exact True.intro)
    | (with_reducible refine Go.far ?_)
    | ((with_reducible refine Apt.mk ?_); (try dsimp only); omega)
    | (with_reducible exact Go.askRep)
    | ((with_reducible refine Ask.mk ?_); first | exact aAsk | exact aAsk2)
    | ((with_reducible refine Go.ari64 ?_ ?_ ?_); (· exact aBnd); (· exact aBnd))
    | ((with_reducible refine Go.ariu8 ?_ ?_ ?_); (· exact aBnd); (· exact aBnd))
    | (with_reducible refine Go.ari0 ?_)
    | (apply Go.elem; (· exact aElem))
    | (apply Go.row; (· exact aRow))
    | (apply Go.map; (· exact aRow))
    | (apply Go.gives; (· exact aGives))
    | (apply Go.gives; (· exact aRes))
    | (with_reducible refine Go.unroll ?_)
    | (with_reducible refine Go.drawn ?_)
    | ((with_reducible refine Go.callW (hck) ?_ ?_); (· exact aFit))
    | ((with_reducible refine Go.callJ (fun _ => hck) ?_ ?_); (· exact aFit))
    | ((with_reducible refine Go.callE (hck) ?_ ?_); (· exact aFit))
    | ((with_reducible refine Go.callF (fun _ => hck) ?_ ?_); (· exact aFit))
    | (refine Go.gt rfl ?_)
    | (refine Go.gf rfl ?_)
    | (with_reducible refine Go.join ?_)
    | (refine Go.lt' rfl ?_)
    | (refine Go.lf' rfl ?_)
    | ((with_reducible refine Go.bool ?_ ?_) <;> intro hc <;> (try simp only [List.length_map, ne_eq, hcs] at hc) <;> try (exfalso; omega))
    | ((with_reducible refine Res.eq ?_ ?_); (· exact aFit)))
      exact rfl
  | false =>
    have e : tsoB x = false := by simp [tsoB, hok]
    have e2 : errN x = 220 := by simp [errN, hok]
    rw [e2] at hck ⊢
    rw [e]
    repeat' (first
    | ((with_reducible refine Go.red ?_); conv => whnf)
    | (with_reducible refine Go.and ?_ ?_)
    | (with_reducible exact True.intro)
    | (with_reducible refine Go.far ?_)
    | ((with_reducible refine Apt.mk ?_); (try dsimp only); omega)
    | (with_reducible exact Go.askRep)
    | ((with_reducible refine Ask.mk ?_); first | exact aAsk | exact aAsk2)
    | ((with_reducible refine Go.ari64 ?_ ?_ ?_); (· exact aBnd); (· exact aBnd))
    | ((with_reducible refine Go.ariu8 ?_ ?_ ?_); (· exact aBnd); (· exact aBnd))
    | (with_reducible refine Go.ari0 ?_)
    | (apply Go.elem; (· exact aElem))
    | (apply Go.row; (· exact aRow))
    | (apply Go.map; (· exact aRow))
    | (apply Go.gives; (· exact aGives))
    | (apply Go.gives; (· exact aRes))
    | (with_reducible refine Go.unroll ?_)
    | (with_reducible refine Go.drawn ?_)
    | ((with_reducible refine Go.callW (hck) ?_ ?_); (· exact aFit))
    | ((with_reducible refine Go.callJ (fun _ => hck) ?_ ?_); (· exact aFit))
    | ((with_reducible refine Go.callE (hck) ?_ ?_); (· exact aFit))
    | ((with_reducible refine Go.callF (fun _ => hck) ?_ ?_); (· exact aFit))
    | (refine Go.gt rfl ?_)
    | (refine Go.gf rfl ?_)
    | (with_reducible refine Go.join ?_)
    | (refine Go.lt' rfl ?_)
    | (refine Go.lf' rfl ?_)
    | ((with_reducible refine Go.bool ?_ ?_) <;> intro hc <;> (try simp only [List.length_map, ne_eq, hcs] at hc) <;> try (exfalso; omega))
    | ((with_reducible refine Res.eq ?_ ?_); (· exact aFit)))
    exact rfl
theorem take_imF {l : List (List Int)} {i : Nat} (h : i < l.length) : (l.take (i + 1)).map imF = (l.take i).map imF ++ [imF (l.getD i [])] := by
  rw [List.take_succ_eq_append_getElem h, List.map_append, getD_el [] h]; rfl
theorem ice_imFs {G : Hp} {k : Nat} {l : List (List Int)} : ∀ a ∈ l.map imF, ice G k a = a := fun a ha => by
  obtain ⟨_, _, rfl⟩ := List.mem_map.1 ha
  exact ice_im _ _ _ _ _
theorem copy_call (x : Exec) (hx : x.Wf) : CallN Try.prog 9 [x.av] [] 0 (fun r H n => ∃ b1 b2 b3 v, r = .agg [.sl b1 x.first.length, .sl b2 x.events.length, .sl b3 x.frm.length, v] ∧ (∃ d, getH H b1 = some (.row 2 1 d (x.first.map i64))) ∧ (∃ d, getH H b2 = some (.row 39 5 d (x.events.map Deed.av))) ∧ (∃ d, getH H b3 = some (.row 3 1 d (x.frm.map i64))) ∧ (x.after = [] ∧ v = .sc (.slice none 0 0) ∨ ∃ b4 d, x.after ≠ [] ∧ v = .sl b4 x.after.length ∧ getH H b4 = some (.row 24 1 d (x.after.map imF)))) := by
  refine Go.fn Try.func9 nm9 low9 res9 nt9 rfl ?_
  have h1 := hx.eventslen
  have h2 := hx.frmlen
  have h3 := hx.afterlen
  have h4 := hx.firstlen
  repeat' (first
    | ((with_reducible refine Go.red ?_); conv => whnf)
    | (with_reducible refine Go.and ?_ ?_)
    | (with_reducible exact True.intro)
    | (with_reducible refine Go.far ?_)
    | ((with_reducible refine Apt.mk ?_); (try dsimp only); omega)
    | (with_reducible exact Go.askRep)
    | ((with_reducible refine Ask.mk ?_); first | exact aAsk | exact aAsk2 | (intro h; simp_all [Exec.cells] <;> fail) | (simp_all [Exec.cells] <;> fail))
    | ((with_reducible refine Go.ari64 ?_ ?_ ?_); (· exact aBnd); (· exact aBnd))
    | ((with_reducible refine Go.ariu8 ?_ ?_ ?_); (· exact aBnd); (· exact aBnd))
    | (with_reducible refine Go.ari0 ?_)
    | (apply Go.elem; (· exact aElem))
    | (apply Go.row; (· exact aRow))
    | (apply Go.map; (· exact aRow))
    | (apply Go.gives; (· exact aGives))
    | (apply Go.gives; (· exact aRes))
    | (with_reducible refine Go.unroll ?_)
    | (with_reducible refine Go.drawn ?_)
    | (refine Go.gt rfl ?_)
    | (refine Go.gf rfl ?_)
    | (with_reducible refine Go.join ?_)
    | (refine Go.lt' rfl ?_)
    | (refine Go.lf' rfl ?_)
    | ((with_reducible refine Go.bool ?_ ?_) <;> intro hc <;> (try simp only [List.length_map, ne_eq, hcs] at hc) <;> try (exfalso; omega))
    | ((with_reducible refine Res.eq ?_ ?_); (· exact aFit)))
  refine Go.loopT (fun p : Nat × AV => [(1, .pt 0 1 0 0), (2, .pt 1 1 0 0), (3, .pt 15 1 0 0), (4, i64 p.1)])
    (fun p H n => p.1 ≤ x.after.length ∧ 16 ≤ n ∧ getH H 0 = some (.row 27 4 .any [x.av]) ∧ (∃ d, getH H 1 = some (.row 27 4 d [.agg [.sc (.slice none 0 0), .sc (.slice none 0 0), .sc (.slice none 0 0), .sc (.slice none 0 0)]])) ∧ (∃ d, getH H 2 = some (.row 2 1 d (x.first.map i64))) ∧ (∃ d, getH H 6 = some (.row 39 5 d (x.events.map Deed.av))) ∧ (∃ d, getH H 10 = some (.row 3 1 d (x.frm.map i64))) ∧
      (∃ d, getH H 15 = some (.row 27 4 d [.agg [.sl 2 (0 + (x.first.map i64).length), .sl 6 (0 + (x.events.map Deed.av).length), .sl 10 (0 + (x.frm.map i64).length), p.2]])) ∧ (p.1 = 0 ∧ p.2 = .sc (.slice none 0 0) ∨ ∃ cb d, 0 < p.1 ∧ p.2 = .sl cb p.1 ∧ 16 ≤ cb ∧ cb < n ∧ getH H cb = some (.row 24 1 d ((x.after.take p.1).map imF)))) (fun p => x.after.length - p.1) (0, .sc (.slice none 0 0)) aLess ⟨_, _, Wk.refl _ _ _, Nat.zero_le _, aNx, aRow, ⟨_, aRow⟩, ⟨_, aRow⟩, ⟨_, aRow⟩, ⟨_, aRow⟩, ⟨_, aRow⟩, .inl ⟨rfl, rfl⟩⟩ ?_
  rintro ⟨i, v⟩ H n ⟨hi, hn, r0, ⟨d1, r1⟩, ⟨d2, r2⟩, ⟨d6, r6⟩, ⟨d10, r10⟩, ⟨d15, r15⟩, hv⟩
  dsimp only at hi r15 hv ⊢
  by_cases hil : i < x.after.length
  · have hal : (x.after.getD i []).length * 8 ≤ 140737488351232 := af_len hx i
    rcases hv with ⟨rfl, rfl⟩ | ⟨cb, d, h0, rfl, hc1, hc2, rc⟩
    · repeat' (first
          | ((with_reducible refine Go.red ?_); conv => whnf)
          | (with_reducible refine Go.and ?_ ?_)
          | (with_reducible exact True.intro)
          | (with_reducible refine Go.far ?_)
          | ((with_reducible refine Apt.mk ?_); (try dsimp only); omega)
          | (with_reducible exact Go.askRep)
          | ((with_reducible refine Ask.mk ?_); first | exact aAsk | exact aAsk2 | (intro h; simp_all [Exec.cells] <;> fail) | (simp_all [Exec.cells] <;> fail))
          | ((with_reducible refine Go.ari64 ?_ ?_ ?_); (· exact aBnd); (· exact aBnd))
          | ((with_reducible refine Go.ariu8 ?_ ?_ ?_); (· exact aBnd); (· exact aBnd))
          | (with_reducible refine Go.ari0 ?_)
          | (apply Go.elem; (· (first | exact lst_get | exact aElem)))
          | (apply Go.row; (· exact aRow))
          | (apply Go.map; (· exact aRow))
          | (apply Go.gives; (· exact aGives))
          | (apply Go.gives; (· exact aRes))
          | (with_reducible refine Go.unroll ?_)
          | (with_reducible refine Go.drawn ?_)
          | (refine Go.gt rfl ?_)
          | (refine Go.gf rfl ?_)
          | (with_reducible refine Go.join ?_)
          | (refine Go.lt' rfl ?_)
          | (refine Go.lf' rfl ?_)
          | ((with_reducible refine Go.bool ?_ ?_) <;> intro hc <;> (try simp only [List.length_map, ne_eq, hcs] at hc) <;> try (exfalso; omega))
          | ((with_reducible refine Res.eq ?_ ?_); (· exact aFit)))
      refine ⟨(1, .sl (n + 15) 1), by dsimp only; omega, aLess, _, _, Wk.ice1 (b := n + 7) (cb := n + 15) .any aRow aRow (ice_last (es := []) (by simp) (by simp)), by dsimp only; omega, aNx, aRow, ⟨_, aRow⟩, ⟨_, aRow⟩, ⟨_, aRow⟩, ⟨_, aRow⟩, ⟨_, aRow⟩, .inr ⟨n + 15, .any, by dsimp only; omega, rfl, by omega, aNx, ?_⟩⟩
      dsimp only
      rw [take_imF (by omega)]
      exact aRow
    · repeat' (first
          | ((with_reducible refine Go.red ?_); conv => whnf)
          | (with_reducible refine Go.and ?_ ?_)
          | (with_reducible exact True.intro)
          | (with_reducible refine Go.far ?_)
          | ((with_reducible refine Apt.mk ?_); (try dsimp only); omega)
          | (with_reducible exact Go.askRep)
          | ((with_reducible refine Ask.mk ?_); first | exact aAsk | exact aAsk2 | (intro h; simp_all [Exec.cells] <;> fail) | (simp_all [Exec.cells] <;> fail))
          | ((with_reducible refine Go.ari64 ?_ ?_ ?_); (· exact aBnd); (· exact aBnd))
          | ((with_reducible refine Go.ariu8 ?_ ?_ ?_); (· exact aBnd); (· exact aBnd))
          | (with_reducible refine Go.ari0 ?_)
          | (apply Go.elem; (· (first | exact lst_get | exact aElem)))
          | (apply Go.row; (· exact aRow))
          | (apply Go.map; (· exact aRow))
          | (apply Go.gives; (· exact aGives))
          | (apply Go.gives; (· exact aRes))
          | (with_reducible refine Go.unroll ?_)
          | (with_reducible refine Go.drawn ?_)
          | (refine Go.gt rfl ?_)
          | (refine Go.gf rfl ?_)
          | (with_reducible refine Go.join ?_)
          | (refine Go.lt' rfl ?_)
          | (refine Go.lf' rfl ?_)
          | ((with_reducible refine Go.bool ?_ ?_) <;> intro hc <;> (try simp only [List.length_map, ne_eq, hcs] at hc) <;> try (exfalso; omega))
          | ((with_reducible refine Res.eq ?_ ?_); (· exact aFit)))
      refine ⟨(i + 1, .sl cb (i + 1)), by dsimp only; omega, ?_, _, _, Wk.ice1 (b := n + 7) (cb := cb) .any aRow aRow (ice_last ice_imFs (by simp)), by dsimp only; omega, aNx, aRow, ⟨_, aRow⟩, ⟨_, aRow⟩, ⟨_, aRow⟩, ⟨_, aRow⟩, ⟨_, aRow⟩, .inr ⟨cb, .any, by dsimp only; omega, rfl, hc1, aNx, ?_⟩⟩
      · exact aLess
      · dsimp only
        rw [take_imF (by omega)]
        exact aRow
  · have hil : i = x.after.length := by omega
    subst hil
    rcases hv with ⟨h0, rfl⟩ | ⟨cb, d, h0, rfl, hc1, hc2, rc⟩
    · repeat' (first
          | ((with_reducible refine Go.red ?_); conv => whnf)
          | (with_reducible refine Go.and ?_ ?_)
          | (with_reducible exact True.intro)
          | (with_reducible refine Go.far ?_)
          | ((with_reducible refine Apt.mk ?_); (try dsimp only); omega)
          | (with_reducible exact Go.askRep)
          | ((with_reducible refine Ask.mk ?_); first | exact aAsk | exact aAsk2 | (intro h; simp_all [Exec.cells] <;> fail) | (simp_all [Exec.cells] <;> fail))
          | ((with_reducible refine Go.ari64 ?_ ?_ ?_); (· exact aBnd); (· exact aBnd))
          | ((with_reducible refine Go.ariu8 ?_ ?_ ?_); (· exact aBnd); (· exact aBnd))
          | (with_reducible refine Go.ari0 ?_)
          | (apply Go.elem; (· exact aElem))
          | (apply Go.row; (· exact aRow))
          | (apply Go.map; (· exact aRow))
          | (apply Go.gives; (· exact aGives))
          | (apply Go.gives; (· exact aRes))
          | (with_reducible refine Go.unroll ?_)
          | (with_reducible refine Go.drawn ?_)
          | (refine Go.gt rfl ?_)
          | (refine Go.gf rfl ?_)
          | (with_reducible refine Go.join ?_)
          | (refine Go.lt' rfl ?_)
          | (refine Go.lf' rfl ?_)
          | ((with_reducible refine Go.bool ?_ ?_) <;> intro hc <;> (try simp only [List.length_map, ne_eq, hcs] at hc) <;> try (exfalso; omega))
          | ((with_reducible refine Res.eq ?_ ?_); (· exact aFit)))
      simp only [Nat.zero_add, List.length_map]
      exact ⟨⟨_, _, _, _, rfl, ⟨_, aRow⟩, ⟨_, aRow⟩, ⟨_, aRow⟩, .inl ⟨List.eq_nil_of_length_eq_zero h0, rfl⟩⟩⟩
    · rw [List.take_length] at rc
      repeat' (first
          | ((with_reducible refine Go.red ?_); conv => whnf)
          | (with_reducible refine Go.and ?_ ?_)
          | (with_reducible exact True.intro)
          | (with_reducible refine Go.far ?_)
          | ((with_reducible refine Apt.mk ?_); (try dsimp only); omega)
          | (with_reducible exact Go.askRep)
          | ((with_reducible refine Ask.mk ?_); first | exact aAsk | exact aAsk2 | (intro h; simp_all [Exec.cells] <;> fail) | (simp_all [Exec.cells] <;> fail))
          | ((with_reducible refine Go.ari64 ?_ ?_ ?_); (· exact aBnd); (· exact aBnd))
          | ((with_reducible refine Go.ariu8 ?_ ?_ ?_); (· exact aBnd); (· exact aBnd))
          | (with_reducible refine Go.ari0 ?_)
          | (apply Go.elem; (· exact aElem))
          | (apply Go.row; (· exact aRow))
          | (apply Go.map; (· exact aRow))
          | (apply Go.gives; (· exact aGives))
          | (apply Go.gives; (· exact aRes))
          | (with_reducible refine Go.unroll ?_)
          | (with_reducible refine Go.drawn ?_)
          | (refine Go.gt rfl ?_)
          | (refine Go.gf rfl ?_)
          | (with_reducible refine Go.join ?_)
          | (refine Go.lt' rfl ?_)
          | (refine Go.lf' rfl ?_)
          | ((with_reducible refine Go.bool ?_ ?_) <;> intro hc <;> (try simp only [List.length_map, ne_eq, hcs] at hc) <;> try (exfalso; omega))
          | ((with_reducible refine Res.eq ?_ ?_); (· exact aFit)))
      simp only [Nat.zero_add, List.length_map]
      exact ⟨⟨_, _, _, _, rfl, ⟨_, aRow⟩, ⟨_, aRow⟩, ⟨_, aRow⟩, .inr ⟨_, _, fun e => by rw [e] at h0; exact absurd h0 (by simp), rfl, aRow⟩⟩⟩
theorem copy_pure (x : Exec) (hx : x.Wf) : Pure Try.prog 9 [x.av] (fun r => r = x.av) := by
  refine weak_pure (a := x.fz) ?_ (by simp [fitA]) (fun c => le_fz c x)
  refine weak_pure (a := if x.after = [] then .agg [imF x.first, .im 5 .any (x.events.map Deed.av), imF x.frm, .sc (.slice none 0 0)] else x.fz) ?_ (by simp) (fun c => ?_)
  · refine pure_of_call ((copy_call x hx).mono ?_) (by split <;> simp [fitA, fitL, fitL_map, imF, Deed.cells])
    rintro r H n ⟨b1, b2, b3, v, rfl, ⟨d1, h1⟩, ⟨d2, h2⟩, ⟨d3, h3⟩, h4⟩
    have e1 : ∀ k (l : List Int), (l.map i64).map (Abs.frz H k) = l.map i64 := fun k l => frz_same k (by simp [fitL_map, fitA])
    have e2 : ∀ k (l : List Deed), (l.map Deed.av).map (Abs.frz H k) = l.map Deed.av := fun k l => frz_same k (by simp [fitL_map, fitA])
    have e3 : ∀ k (l : List (List Int)), (l.map imF).map (Abs.frz H k) = l.map imF := fun k l => frz_same k (by simp [fitL_map])
    show AV.agg [Abs.frz H 5 (.sl b1 _), Abs.frz H 5 (.sl b2 _), Abs.frz H 5 (.sl b3 _), Abs.frz H 5 v] = _
    rw [frz_sl h1 (by simp), frz_sl h2 (by simp), frz_sl h3 (by simp), e1, e2, e1]
    rcases h4 with ⟨h5, rfl⟩ | ⟨b4, d4, h6, rfl, h5⟩
    · rw [if_pos h5, frz_sc]; rfl
    · rw [frz_sl h5 (by simp), e3]
      rw [if_neg h6]; rfl
  · split
    · rename_i h0
      rw [Exec.fz, h0]
      exact AVle.agg (.cons (fun _ h => h) (.cons (fun _ h => h) (.cons (fun _ h => h) (.cons (AVle.nilIm _ _ _ _) .nil))))
    · exact fun _ h => h
end Go.Proofs.Ytncllkpekbapjaa
