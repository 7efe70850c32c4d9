/- The document's check of an object. -/
import Derived.Test.YtliabecchkolgaaGreatVc
namespace Go.Proofs.YtliabecchkolgaaGreat
open Go Go.Abs Go.Proofs
set_option linter.unusedSimpArgs false
set_option linter.unusedVariables false
theorem rdigit_pure (c : Int) : Pure Tryz.prog 70 [.sc (.int .u8 c)] (fun r => r = .sc (.bool (isDigit c))) := by
  refine Go.pure Tryz.func70 nm70 low70 res70 nt70 rfl ?_
  repeat' (first
    | ((with_reducible refine Go.red ?_); conv => whnf)
    | (with_reducible refine Go.and ?_ ?_)
    | (with_reducible exact True.intro)
    | (with_reducible refine Go.far ?_)
    | ((with_reducible refine Apt.mk ?_); (try dsimp only); omega)
    | ((with_reducible refine Ask.mk ?_); first | exact aAsk | exact aAsk2)
    | ((with_reducible refine Go.ari64 ?_ ?_ ?_); (· exact aBnd); (· exact aBnd))
    | ((with_reducible refine Go.ariu8 ?_ ?_ ?_); (· exact aBnd); (· exact aBnd))
    | (with_reducible refine Go.ari0 ?_)
    | (apply Go.elem; (· exact aElem))
    | (apply Go.row; (· exact aRow))
    | (apply Go.gives; (· exact aGives))
    | (apply Go.gives; (· exact aRes))
    | (with_reducible refine Go.unroll ?_)
    | (refine Go.gt rfl ?_)
    | (refine Go.gf rfl ?_)
    | (with_reducible refine Go.join ?_)
    | (refine Go.lt' rfl ?_)
    | (refine Go.lf' rfl ?_)
    | ((with_reducible refine Go.bool ?_ ?_) <;> intro hc <;> (try simp only [List.length_map, ne_eq, hcs] at hc) <;> try (exfalso; omega))
    | ((with_reducible refine Res.eq ?_ ?_); (· exact aFit)))
  all_goals simp [isDigit]
theorem rletter_pure (c : Int) : Pure Tryz.prog 72 [.sc (.int .u8 c)] (fun r => r = .sc (.bool (isLetter c))) := by
  refine Go.pure Tryz.func72 nm72 low72 res72 nt72 rfl ?_
  repeat' (first
    | ((with_reducible refine Go.red ?_); conv => whnf)
    | (with_reducible refine Go.and ?_ ?_)
    | (with_reducible exact True.intro)
    | (with_reducible refine Go.far ?_)
    | ((with_reducible refine Apt.mk ?_); (try dsimp only); omega)
    | ((with_reducible refine Ask.mk ?_); first | exact aAsk | exact aAsk2)
    | ((with_reducible refine Go.ari64 ?_ ?_ ?_); (· exact aBnd); (· exact aBnd))
    | ((with_reducible refine Go.ariu8 ?_ ?_ ?_); (· exact aBnd); (· exact aBnd))
    | (with_reducible refine Go.ari0 ?_)
    | (apply Go.elem; (· exact aElem))
    | (apply Go.row; (· exact aRow))
    | (apply Go.gives; (· exact aGives))
    | (apply Go.gives; (· exact aRes))
    | (with_reducible refine Go.unroll ?_)
    | (refine Go.gt rfl ?_)
    | (refine Go.gf rfl ?_)
    | (with_reducible refine Go.join ?_)
    | (refine Go.lt' rfl ?_)
    | (refine Go.lf' rfl ?_)
    | ((with_reducible refine Go.bool ?_ ?_) <;> intro hc <;> (try simp only [List.length_map, ne_eq, hcs] at hc) <;> try (exfalso; omega))
    | ((with_reducible refine Res.eq ?_ ?_); (· exact aFit)))
  all_goals simp [isLetter, Bool.or_assoc]
theorem rword_pure (s : ByteArray) : Pure Tryz.prog 71 [.sc (.string s)] (fun r => r = .sc (.bool (isWord s))) := by
  refine Go.pure Tryz.func71 nm71 low71 res71 nt71 rfl ?_
  repeat' (first
    | ((with_reducible refine Go.red ?_); conv => whnf)
    | (with_reducible refine Go.and ?_ ?_)
    | (with_reducible exact True.intro)
    | (with_reducible refine Go.far ?_)
    | ((with_reducible refine Apt.mk ?_); (try dsimp only); omega)
    | ((with_reducible refine Ask.mk ?_); first | exact aAsk | exact aAsk2)
    | ((with_reducible refine Go.ari64 ?_ ?_ ?_); (· exact aBnd); (· exact aBnd))
    | ((with_reducible refine Go.ariu8 ?_ ?_ ?_); (· exact aBnd); (· exact aBnd))
    | (with_reducible refine Go.ari0 ?_)
    | (apply Go.elem; (· exact aElem))
    | (apply Go.row; (· exact aRow))
    | (apply Go.gives; (· exact aGives))
    | (apply Go.gives; (· exact aRes))
    | (with_reducible refine Go.unroll ?_)
    | (refine Go.gt rfl ?_)
    | (refine Go.gf rfl ?_)
    | (with_reducible refine Go.join ?_)
    | (refine Go.lt' rfl ?_)
    | (refine Go.lf' rfl ?_)
    | ((with_reducible refine Go.bool ?_ ?_) <;> intro hc <;> (try simp only [List.length_map, ne_eq, hcs] at hc) <;> try (exfalso; omega))
    | ((with_reducible refine Res.eq ?_ ?_); (· exact aFit)))
  all_goals simp_all [isWord]
theorem rtwo_pure (c : Int) : Pure Tryz.prog 43 [.sc (.int .u8 c)] (fun r => r = .sc (.bool (two c))) := by
  refine Go.pure Tryz.func43 nm43 low43 res43 nt43 rfl ?_
  repeat' (first
    | ((with_reducible refine Go.red ?_); conv => whnf)
    | (with_reducible refine Go.and ?_ ?_)
    | (with_reducible exact True.intro)
    | (with_reducible refine Go.far ?_)
    | ((with_reducible refine Apt.mk ?_); (try dsimp only); omega)
    | ((with_reducible refine Ask.mk ?_); first | exact aAsk | exact aAsk2)
    | ((with_reducible refine Go.ari64 ?_ ?_ ?_); (· exact aBnd); (· exact aBnd))
    | ((with_reducible refine Go.ariu8 ?_ ?_ ?_); (· exact aBnd); (· exact aBnd))
    | (with_reducible refine Go.ari0 ?_)
    | (apply Go.elem; (· exact aElem))
    | (apply Go.row; (· exact aRow))
    | (apply Go.gives; (· exact aGives))
    | (apply Go.gives; (· exact aRes))
    | (with_reducible refine Go.unroll ?_)
    | (refine Go.gt rfl ?_)
    | (refine Go.gf rfl ?_)
    | (with_reducible refine Go.join ?_)
    | (refine Go.lt' rfl ?_)
    | (refine Go.lf' rfl ?_)
    | ((with_reducible refine Go.bool ?_ ?_) <;> intro hc <;> (try simp only [List.length_map, ne_eq, hcs] at hc) <;> try (exfalso; omega))
    | ((with_reducible refine Res.eq ?_ ?_); (· exact aFit)))
  all_goals
    congr 2
    rw [Bool.eq_iff_iff]
    simp [two]
    omega
theorem rreg_pure (c : Int) : Pure Tryz.prog 44 [.sc (.int .i64 c)] (fun r => r = .sc (.bool (decide (0 ≤ c) && decide (c < 16)))) := by
  refine Go.pure Tryz.func44 nm44 low44 res44 nt44 rfl ?_
  repeat' (first
    | ((with_reducible refine Go.red ?_); conv => whnf)
    | (with_reducible refine Go.and ?_ ?_)
    | (with_reducible exact True.intro)
    | (with_reducible refine Go.far ?_)
    | ((with_reducible refine Apt.mk ?_); (try dsimp only); omega)
    | ((with_reducible refine Ask.mk ?_); first | exact aAsk | exact aAsk2)
    | ((with_reducible refine Go.ari64 ?_ ?_ ?_); (· exact aBnd); (· exact aBnd))
    | ((with_reducible refine Go.ariu8 ?_ ?_ ?_); (· exact aBnd); (· exact aBnd))
    | (with_reducible refine Go.ari0 ?_)
    | (apply Go.elem; (· exact aElem))
    | (apply Go.row; (· exact aRow))
    | (apply Go.gives; (· exact aGives))
    | (apply Go.gives; (· exact aRes))
    | (with_reducible refine Go.unroll ?_)
    | (refine Go.gt rfl ?_)
    | (refine Go.gf rfl ?_)
    | (with_reducible refine Go.join ?_)
    | (refine Go.lt' rfl ?_)
    | (refine Go.lf' rfl ?_)
    | ((with_reducible refine Go.bool ?_ ?_) <;> intro hc <;> (try simp only [List.length_map, ne_eq, hcs] at hc) <;> try (exfalso; omega))
    | ((with_reducible refine Res.eq ?_ ?_); (· exact aFit)))
  all_goals simp
theorem size_zero {s : ByteArray} (h : s.size < 1) : (s == ⟨#[]⟩) = true := by
  obtain ⟨a⟩ := s
  have h2 : a.size < 1 := h
  have : a = #[] := Array.eq_empty_of_size_eq_zero (by omega)
  subst this; rfl
theorem size_some {s : ByteArray} (h : ¬ s.size < 1) : (s == ⟨#[]⟩) = false := by
  cases hb : (s == ⟨#[]⟩) with
  | false => rfl
  | true =>
    exfalso
    have : s = ⟨#[]⟩ := by
      obtain ⟨a⟩ := s
      have h2 : (a == #[]) = true := hb
      simp at h2
      rw [h2]
    rw [this] at h
    exact h (by decide)
theorem rname_pure (s : ByteArray) (hs : s.size ≤ 140737488351232) : Pure Tryz.prog 41 [.sc (.string s)] (fun r => r = .sc (.bool (isName s))) := by
  refine Go.pure Tryz.func41 nm41 low41 res41 nt41 rfl ?_
  repeat' (first
    | ((with_reducible refine Go.red ?_); conv => whnf)
    | (with_reducible refine Go.and ?_ ?_)
    | (with_reducible exact True.intro)
    | (with_reducible refine Go.far ?_)
    | ((with_reducible refine Apt.mk ?_); (try dsimp only); omega)
    | ((with_reducible refine Ask.mk ?_); first | exact aAsk | exact aAsk2)
    | ((with_reducible refine Go.ari64 ?_ ?_ ?_); (· exact aBnd); (· exact aBnd))
    | ((with_reducible refine Go.ariu8 ?_ ?_ ?_); (· exact aBnd); (· exact aBnd))
    | (with_reducible refine Go.ari0 ?_)
    | (apply Go.elem; (· exact aElem))
    | (apply Go.row; (· exact aRow))
    | (apply Go.gives; (· exact aGives))
    | (apply Go.gives; (· exact aRes))
    | (with_reducible refine Go.unroll ?_)
    | ((with_reducible refine Go.callW (rdigit_pure _) ?_ ?_); (· exact aFit))
    | ((with_reducible refine Go.callJ (fun _ => rdigit_pure _) ?_ ?_); (· exact aFit))
    | ((with_reducible refine Go.callE (rdigit_pure _) ?_ ?_); (· exact aFit))
    | ((with_reducible refine Go.callF (fun _ => rdigit_pure _) ?_ ?_); (· exact aFit))
    | ((with_reducible refine Go.callW (rletter_pure _) ?_ ?_); (· exact aFit))
    | ((with_reducible refine Go.callJ (fun _ => rletter_pure _) ?_ ?_); (· exact aFit))
    | ((with_reducible refine Go.callE (rletter_pure _) ?_ ?_); (· exact aFit))
    | ((with_reducible refine Go.callF (fun _ => rletter_pure _) ?_ ?_); (· exact aFit))
    | ((with_reducible refine Go.callW (rword_pure _) ?_ ?_); (· exact aFit))
    | ((with_reducible refine Go.callJ (fun _ => rword_pure _) ?_ ?_); (· exact aFit))
    | ((with_reducible refine Go.callE (rword_pure _) ?_ ?_); (· exact aFit))
    | ((with_reducible refine Go.callF (fun _ => rword_pure _) ?_ ?_); (· exact aFit))
    | (refine Go.gt rfl ?_)
    | (refine Go.gf rfl ?_)
    | (with_reducible refine Go.join ?_)
    | (refine Go.lt' rfl ?_)
    | (refine Go.lf' rfl ?_)
    | ((with_reducible refine Go.bool ?_ ?_) <;> intro hc <;> (try simp only [List.length_map, ne_eq, hcs] at hc) <;> try (exfalso; omega))
    | ((with_reducible refine Res.eq ?_ ?_); (· exact aFit)))
  · congr 2
    rcases hc with ((hc | hc) | hc) | hc
    · have h9 := size_zero (s := s) (by omega)
      simp [isName, h9]
    · simp [isName, hc]
    · have h2 : isDigit (s.data.toList.getD 0 0).toNat = true := hc
      simp only [isName, h2, Bool.not_true, Bool.and_false, Bool.false_and]
    · simp [isName, hc]
  · have h0 : (s == ⟨#[]⟩) = false := size_some (fun h => hc.1 (.inl (.inl (by omega))))
    have h1 : ¬ ((32 : Int) < s.size) := fun h => hc.1 (.inl (.inr h))
    have h2 : isDigit (s.data.toList.getD 0 0).toNat = false := by
      cases hd : isDigit (s.data.toList.getD 0 0).toNat with
      | false => rfl
      | true => exact absurd (.inr hd) hc.1
    have h3 := hc.2
    refine Go.loop (fun i : Nat => [(3, .sc (.int .i64 i)), (0, .sc (.string s))]) (fun i _ _ => i ≤ s.size ∧ ∀ j, j < i → okChar (s.data.toList.getD j 0) = true) (fun i => s.size - i) 0 ⟨rfl, rfl, trivial⟩ ⟨Nat.zero_le _, fun j hj => by omega⟩ ?_
    intro i H nx ⟨hi, hok⟩
    repeat' (first
        | ((with_reducible refine Go.red ?_); conv => whnf)
        | (with_reducible refine Go.and ?_ ?_)
        | (with_reducible exact True.intro)
        | (with_reducible refine Go.far ?_)
        | ((with_reducible refine Apt.mk ?_); (try dsimp only); omega)
        | ((with_reducible refine Ask.mk ?_); first | exact aAsk | exact aAsk2)
        | ((with_reducible refine Go.ari64 ?_ ?_ ?_); (· exact aBnd); (· exact aBnd))
        | ((with_reducible refine Go.ariu8 ?_ ?_ ?_); (· exact aBnd); (· exact aBnd))
        | (with_reducible refine Go.ari0 ?_)
        | (apply Go.elem; (· exact aElem))
        | (apply Go.row; (· exact aRow))
        | (apply Go.gives; (· exact aGives))
        | (apply Go.gives; (· exact aRes))
        | (with_reducible refine Go.unroll ?_)
        | ((with_reducible refine Go.callW (rdigit_pure _) ?_ ?_); (· exact aFit))
        | ((with_reducible refine Go.callJ (fun _ => rdigit_pure _) ?_ ?_); (· exact aFit))
        | ((with_reducible refine Go.callE (rdigit_pure _) ?_ ?_); (· exact aFit))
        | ((with_reducible refine Go.callF (fun _ => rdigit_pure _) ?_ ?_); (· exact aFit))
        | ((with_reducible refine Go.callW (rletter_pure _) ?_ ?_); (· exact aFit))
        | ((with_reducible refine Go.callJ (fun _ => rletter_pure _) ?_ ?_); (· exact aFit))
        | ((with_reducible refine Go.callE (rletter_pure _) ?_ ?_); (· exact aFit))
        | ((with_reducible refine Go.callF (fun _ => rletter_pure _) ?_ ?_); (· exact aFit))
        | ((with_reducible refine Go.callW (rword_pure _) ?_ ?_); (· exact aFit))
        | ((with_reducible refine Go.callJ (fun _ => rword_pure _) ?_ ?_); (· exact aFit))
        | ((with_reducible refine Go.callE (rword_pure _) ?_ ?_); (· exact aFit))
        | ((with_reducible refine Go.callF (fun _ => rword_pure _) ?_ ?_); (· exact aFit))
        | (refine Go.gt rfl ?_)
        | (refine Go.gf rfl ?_)
        | (with_reducible refine Go.join ?_)
        | (refine Go.lt' rfl ?_)
        | (refine Go.lf' rfl ?_)
        | ((with_reducible refine Go.bool ?_ ?_) <;> intro hc <;> (try simp only [List.length_map, ne_eq, hcs] at hc) <;> try (exfalso; omega))
        | ((with_reducible refine Res.eq ?_ ?_); (· exact aFit)))
    · congr 2
      have h1 : s.data.toList.all okChar = false := all_getD_false 0 (j := i) (by simp; omega) (by simpa [okChar] using hc)
      simp [isName, h1]
    · refine ⟨i + 1, by omega, aLess, by omega, fun j hj => ?_⟩
      by_cases h : j = i
      · subst h; simp only [okChar]; grind
      · exact hok j (by omega)
    · congr 2
      have h4 : s.data.toList.all okChar = true := all_getD 0 fun j hj => hok j (by simp at hj; omega)
      simp only [isName, h0, h2, h3, h4, decide_eq_false h1]; rfl
theorem uses_pure (k : Int) (h : 0 ≤ k ∧ k < 256) : Pure Tryz.prog 42 [.sc (.int .u8 k)] (fun r => r = .tup [bl (decide (k = 1 ∨ k = 2 ∨ k = 3 ∨ k = 5)), bl (decide (k = 2 ∨ k = 4 ∨ k = 7 ∨ k = 9)), bl (decide (k = 3 ∨ k = 4 ∨ k = 5)), bl (decide (k = 8 ∨ k = 9))]) := by
  refine Go.pure Tryz.func42 nm42 low42 res42 nt42 rfl ?_
  repeat' (first
    | ((with_reducible refine Go.red ?_); conv => whnf)
    | (with_reducible refine Go.and ?_ ?_)
    | (with_reducible exact True.intro)
    | (with_reducible refine Go.far ?_)
    | ((with_reducible refine Apt.mk ?_); (try dsimp only); omega)
    | ((with_reducible refine Ask.mk ?_); first | exact aAsk | exact aAsk2)
    | ((with_reducible refine Go.ari64 ?_ ?_ ?_); (· exact aBnd); (· exact aBnd))
    | ((with_reducible refine Go.ariu8 ?_ ?_ ?_); (· exact aBnd); (· exact aBnd))
    | (with_reducible refine Go.ari0 ?_)
    | (apply Go.elem; (· exact aElem))
    | (apply Go.row; (· exact aRow))
    | (apply Go.gives; (· exact aGives))
    | (apply Go.gives; (· exact aRes))
    | (with_reducible refine Go.unroll ?_)
    | (refine Go.gt rfl ?_)
    | (refine Go.gf rfl ?_)
    | (with_reducible refine Go.join ?_)
    | (refine Go.lt' rfl ?_)
    | (refine Go.lf' rfl ?_)
    | ((with_reducible refine Go.bool ?_ ?_) <;> intro hc <;> (try simp only [List.length_map, ne_eq, hcs] at hc) <;> try (exfalso; omega))
    | ((with_reducible refine Res.eq ?_ ?_); (· exact aFit)))
  all_goals
    simp only [AV.tup.injEq, List.cons.injEq, AV.sc.injEq, Value.bool.injEq, and_true]
    refine ⟨?_, ?_, ?_, ?_⟩ <;> (symm; simp only [decide_eq_true_eq, decide_eq_false_iff_not]; omega)
theorem kinds10 {k : Int} (h : 1 ≤ k ∧ k ≤ 10) : k = 1 ∨ k = 2 ∨ k = 3 ∨ k = 4 ∨ k = 5 ∨ k = 6 ∨ k = 7 ∨ k = 8 ∨ k = 9 ∨ k = 10 := by omega
theorem instrOk_eq {i : Instr} {code mem : Int} (hk : 1 ≤ i.kind ∧ i.kind ≤ 10) : instrOk i code mem = (decide (0 ≤ i.fr) && decide (i.fr ≤ 4096) && (bif decide (i.kind = 2) then decide (1 ≤ i.op) && decide (i.op ≤ 18) else decide (i.op = 0)) &&
    within (decide (i.kind = 1 ∨ i.kind = 2 ∨ i.kind = 3 ∨ i.kind = 5)) i.d 16 && within (decide (i.kind = 2 ∨ i.kind = 4 ∨ i.kind = 7 ∨ i.kind = 9)) i.a 16 && within (decide (i.kind = 2) && two i.op) i.b 16 &&
    within (decide (i.kind = 3 ∨ i.kind = 4 ∨ i.kind = 5)) i.addr mem && within (decide (i.kind = 8 ∨ i.kind = 9)) i.to code && (decide (i.kind = 1) || decide (i.word = 0))) := by
  have h0 : kindOk i.kind = true := by simp [kindOk, hk]
  rw [instrOk, h0, Bool.true_and]
  obtain ⟨kind, op, d, a, b, addr, to, word, fr⟩ := i
  simp only at hk ⊢
  rcases kinds10 hk with rfl | rfl | rfl | rfl | rfl | rfl | rfl | rfl | rfl | rfl
  · rw [show mask 1 op = 66 from rfl]; rfl
  · cases ht : two op with
    | false => rw [show mask 2 op = 7 by simp [mask, ht]]; rfl
    | true => rw [show mask 2 op = 15 by simp [mask, ht]]; rfl
  · rw [show mask 3 op = 18 from rfl]; rfl
  · rw [show mask 4 op = 20 from rfl]; rfl
  · rw [show mask 5 op = 18 from rfl]; rfl
  · rw [show mask 6 op = 0 from rfl]; rfl
  · rw [show mask 7 op = 4 from rfl]; rfl
  · rw [show mask 8 op = 32 from rfl]; rfl
  · rw [show mask 9 op = 36 from rfl]; rfl
  · rw [show mask 10 op = 0 from rfl]; rfl
theorem rRight_pure (i : Instr) (hi : i.Wf) (code mem : Int) : Pure Tryz.prog 19 [i.av, i64 code, i64 mem] (fun r => r = bl (instrOk i code mem)) := by
  refine Go.pure Tryz.func19 nm19 low19 res19 nt19 rfl ?_
  have hkd := hi.kind
  repeat' (first
    | ((with_reducible refine Go.red ?_); conv => whnf)
    | (with_reducible refine Go.and ?_ ?_)
    | (with_reducible exact True.intro)
    | (with_reducible refine Go.far ?_)
    | ((with_reducible refine Apt.mk ?_); (try dsimp only); omega)
    | ((with_reducible refine Ask.mk ?_); first | exact aAsk | exact aAsk2)
    | ((with_reducible refine Go.ari64 ?_ ?_ ?_); (· exact aBnd); (· exact aBnd))
    | ((with_reducible refine Go.ariu8 ?_ ?_ ?_); (· exact aBnd); (· exact aBnd))
    | (with_reducible refine Go.ari0 ?_)
    | (apply Go.elem; (· exact aElem))
    | (apply Go.row; (· exact aRow))
    | (apply Go.gives; (· exact aGives))
    | (apply Go.gives; (· exact aRes))
    | (with_reducible refine Go.unroll ?_)
    | ((with_reducible refine Go.callW (uses_pure _ hkd) ?_ ?_); (· exact aFit))
    | ((with_reducible refine Go.callJ (fun _ => uses_pure _ hkd) ?_ ?_); (· exact aFit))
    | ((with_reducible refine Go.callE (uses_pure _ hkd) ?_ ?_); (· exact aFit))
    | ((with_reducible refine Go.callF (fun _ => uses_pure _ hkd) ?_ ?_); (· exact aFit))
    | ((with_reducible refine Go.callW (rtwo_pure _) ?_ ?_); (· exact aFit))
    | ((with_reducible refine Go.callJ (fun _ => rtwo_pure _) ?_ ?_); (· exact aFit))
    | ((with_reducible refine Go.callE (rtwo_pure _) ?_ ?_); (· exact aFit))
    | ((with_reducible refine Go.callF (fun _ => rtwo_pure _) ?_ ?_); (· exact aFit))
    | ((with_reducible refine Go.callW (rreg_pure _) ?_ ?_); (· exact aFit))
    | ((with_reducible refine Go.callJ (fun _ => rreg_pure _) ?_ ?_); (· exact aFit))
    | ((with_reducible refine Go.callE (rreg_pure _) ?_ ?_); (· exact aFit))
    | ((with_reducible refine Go.callF (fun _ => rreg_pure _) ?_ ?_); (· exact aFit))
    | (refine Go.gt rfl ?_)
    | (refine Go.gf rfl ?_)
    | (with_reducible refine Go.join ?_)
    | (refine Go.lt' rfl ?_)
    | (refine Go.lf' rfl ?_)
    | ((with_reducible refine Go.bool ?_ ?_) <;> intro hc <;> (try simp only [List.length_map, ne_eq, hcs] at hc) <;> try (exfalso; omega))
    | ((with_reducible refine Res.eq ?_ ?_); (· exact aFit)))
  all_goals
    congr 2
    by_cases hk : 1 ≤ i.kind ∧ i.kind ≤ 10
    · rw [instrOk_eq hk]
      simp only [within]
      grind
    · have h1 : kindOk i.kind = false := by
        simp only [kindOk, Bool.and_eq_false_iff, decide_eq_false_iff_not]
        omega
      first
        | (exfalso; omega)
        | (simp only [instrOk, h1]; simp)
end Go.Proofs.YtliabecchkolgaaGreat
