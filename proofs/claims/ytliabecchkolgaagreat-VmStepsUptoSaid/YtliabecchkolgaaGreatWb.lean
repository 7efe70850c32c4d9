/- The document's check of an object, whole. -/
import Derived.Test.YtliabecchkolgaaGreatWa
namespace Go.Proofs.YtliabecchkolgaaGreat
open Go Go.Abs Go.Proofs
set_option linter.unusedSimpArgs false
set_option linter.unusedVariables false
theorem any_next (l : List Core) (k : Nat) (h : k < l.length) (f : Core → Bool) : (l.take (k + 1)).any f = ((l.take k).any f || f (l.getD k default)) := by
  rw [List.take_succ_eq_append_getElem h, List.any_append]
  simp [List.getD, h]
theorem askIdx {ok : Bool} {n : Nat} (h : (!if (if (!ok) = true then true else decide ((n : Int) < 1)) = true then true else decide ((16384 : Int) < n)) = true) : 0 ≤ (n : Int) - 1 ∧ (n : Int) - 1 < n := by
  cases ok
  · simp at h
  · by_cases h1 : (n : Int) < 1
    · simp [h1] at h
    · omega
set_option maxHeartbeats 4000000 in
theorem rshaped_pure (o : Obj) (ho : o.Wf) : Pure Tryz.prog 18 [o.av] (fun r => r = bl (shapedOk o)) := by
  refine Go.pure Tryz.func18 nm18 low18 res18 nt18 rfl ?_
  have hol := ho.corelen
  repeat' (first
    | ((with_reducible refine Go.red ?_); conv => whnf)
    | (with_reducible refine Go.and ?_ ?_)
    | (with_reducible exact True.intro)
    | (with_reducible refine Go.far ?_)
    | ((with_reducible refine Apt.mk ?_); (try dsimp only); omega)
    | ((with_reducible refine Ask.mk ?_); first | exact aAsk | exact aAsk2)
    | ((with_reducible refine Go.ari64 ?_ ?_ ?_); (· exact aBnd); (· exact aBnd))
    | ((with_reducible refine Go.ariu8 ?_ ?_ ?_); (· exact aBnd); (· exact aBnd))
    | (with_reducible refine Go.ari0 ?_)
    | (apply Go.elem; (· exact aElem))
    | (apply Go.row; (· exact aRow))
    | (apply Go.gives; (· exact aGives))
    | (apply Go.gives; (· exact aRes))
    | (with_reducible refine Go.unroll ?_)
    | (refine Go.gt rfl ?_)
    | (refine Go.gf rfl ?_)
    | (with_reducible refine Go.join ?_)
    | (refine Go.lt' rfl ?_)
    | (refine Go.lf' rfl ?_)
    | ((with_reducible refine Go.bool ?_ ?_) <;> intro hc <;> (try simp only [List.length_map, ne_eq, hcs] at hc) <;> try (exfalso; omega))
    | ((with_reducible refine Res.eq ?_ ?_); (· exact aFit)))
  · congr 2
    simp only [shapedOk]
    grind
  · refine Go.loop (fun i : Nat => [(1, .pt 0 1 0 0), (3, i64 i)]) (fun i H' n => i ≤ o.cores.length ∧ 1 ≤ n ∧ getH H' 0 = some (.row 25 5 .any [o.av]) ∧ coresOk [] o.cores = coresOk (o.cores.take i) (o.cores.drop i)) (fun i => o.cores.length - i) 0 aLess ⟨Nat.zero_le _, aNx, aRow, rfl⟩ ?_
    rintro i H' n ⟨hi, hn, hr, hs⟩
    have hcl := (ho.at i).len
    repeat' (first
        | ((with_reducible refine Go.red ?_); conv => whnf)
        | (with_reducible refine Go.and ?_ ?_)
        | (with_reducible exact True.intro)
        | (with_reducible refine Go.far ?_)
        | ((with_reducible refine Apt.mk ?_); (try dsimp only); omega)
        | ((with_reducible refine Ask.mk ?_); first | exact aAsk | exact aAsk2)
        | ((with_reducible refine Go.ari64 ?_ ?_ ?_); (· exact aBnd); (· exact aBnd))
        | ((with_reducible refine Go.ariu8 ?_ ?_ ?_); (· exact aBnd); (· exact aBnd))
        | (with_reducible refine Go.ari0 ?_)
        | (apply Go.elem; (· exact aElem))
        | (apply Go.row; (· exact aRow))
        | (apply Go.gives; (· exact aGives))
        | (apply Go.gives; (· exact aRes))
        | (with_reducible refine Go.unroll ?_)
        | ((with_reducible refine Go.callW (rname_pure _ (ho.at _).name) ?_ ?_); (· exact aFit))
        | ((with_reducible refine Go.callJ (fun _ => rname_pure _ (ho.at _).name) ?_ ?_); (· exact aFit))
        | ((with_reducible refine Go.callE (rname_pure _ (ho.at _).name) ?_ ?_); (· exact aFit))
        | ((with_reducible refine Go.callF (fun _ => rname_pure _ (ho.at _).name) ?_ ?_); (· exact aFit))
        | (refine Go.gt rfl ?_)
        | (refine Go.gf rfl ?_)
        | (with_reducible refine Go.join ?_)
        | (refine Go.lt' rfl ?_)
        | (refine Go.lf' rfl ?_)
        | ((with_reducible refine Go.bool ?_ ?_) <;> intro hc <;> (try simp only [List.length_map, ne_eq, hcs] at hc) <;> try (exfalso; omega))
        | ((with_reducible refine Res.eq ?_ ?_); (· exact aFit)))
    · refine Go.loop (fun p : Nat × Bool => [(1, .pt 0 1 0 0), (3, i64 i), (4, .pt (n + 10) 1 0 0), (5, bl p.2), (6, i64 p.1)]) (fun p H2 n2 => p.1 ≤ i ∧ n + 11 ≤ n2 ∧ getH H2 0 = some (.row 25 5 .any [o.av]) ∧ (∃ df, getH H2 (n + 10) = some (.row 56 2 df [(o.cores.getD i default).av])) ∧ p.2 = (isName (o.cores.getD i default).name && !((o.cores.take p.1).any fun d => d.name == (o.cores.getD i default).name))) (fun p => i - p.1) (0, isName (o.cores.getD i default).name) aLess ⟨Nat.zero_le _, aNx, aRow, ⟨_, aRow⟩, by simp⟩ ?_
      rintro ⟨k, ok⟩ H2 n2 ⟨hk, hn2, hr2, ⟨df, hr3⟩, hok⟩
      simp only at hk hok
      dsimp only
      by_cases hki : k < i
      · repeat' (first
            | ((with_reducible refine Go.red ?_); conv => whnf)
            | (with_reducible refine Go.and ?_ ?_)
            | (with_reducible exact True.intro)
            | (with_reducible refine Go.far ?_)
            | ((with_reducible refine Apt.mk ?_); (try dsimp only); omega)
            | ((with_reducible refine Ask.mk ?_); first | exact aAsk | exact aAsk2)
            | ((with_reducible refine Go.ari64 ?_ ?_ ?_); (· exact aBnd); (· exact aBnd))
            | ((with_reducible refine Go.ariu8 ?_ ?_ ?_); (· exact aBnd); (· exact aBnd))
            | (with_reducible refine Go.ari0 ?_)
            | (apply Go.elem; (· exact aElem))
            | (apply Go.row; (· exact aRow))
            | (apply Go.gives; (· exact aGives))
            | (apply Go.gives; (· exact aRes))
            | (with_reducible refine Go.unroll ?_)
            | (refine Go.gt rfl ?_)
            | (refine Go.gf rfl ?_)
            | (with_reducible refine Go.join ?_)
            | (refine Go.lt' rfl ?_)
            | (refine Go.lf' rfl ?_)
            | ((with_reducible refine Go.bool ?_ ?_) <;> intro hc <;> (try simp only [List.length_map, ne_eq, hcs] at hc) <;> try (exfalso; omega))
            | ((with_reducible refine Res.eq ?_ ?_); (· exact aFit)))
        refine ⟨(k + 1, ok && ((o.cores.getD k default).name != (o.cores.getD i default).name)), by show i - (k + 1) < i - k; omega, ?_, by show k + 1 ≤ i; omega, aNx, aRow, ⟨_, aRow⟩, ?_⟩
        · have e : (if ok = true then ((o.cores.getD k default).name != (o.cores.getD i default).name) else false) = (ok && ((o.cores.getD k default).name != (o.cores.getD i default).name)) := by cases ok <;> rfl
          rw [← e]
          exact aLess
        · show _ = (_ && !((o.cores.take (k + 1)).any _))
          rw [hok, any_next _ _ (by omega)]
          simp only [bne, Bool.not_or, Bool.and_assoc]
      by_cases hcode : (o.cores.getD i default).code = []
      · have hr4 : getH H2 (n + 10) = some (.row 56 2 df [.agg [.sc (.string (o.cores.getD i default).name), .im 9 .any []]]) := by
          rw [hr3]; simp only [Core.av, Core.cells, hcode, List.map_nil]
        clear hr3
        cases ok
        all_goals
          repeat' (first
              | ((with_reducible refine Go.red ?_); conv => whnf)
              | (with_reducible refine Go.and ?_ ?_)
              | (with_reducible exact True.intro)
              | (with_reducible refine Go.far ?_)
              | ((with_reducible refine Apt.mk ?_); (try dsimp only); omega)
              | ((with_reducible refine Ask.mk ?_); first | exact aAsk | exact aAsk2)
              | ((with_reducible refine Go.ari64 ?_ ?_ ?_); (· exact aBnd); (· exact aBnd))
              | ((with_reducible refine Go.ariu8 ?_ ?_ ?_); (· exact aBnd); (· exact aBnd))
              | (with_reducible refine Go.ari0 ?_)
              | (apply Go.elem; (· exact aElem))
              | (apply Go.row; (· exact aRow))
              | (apply Go.gives; (· exact aGives))
              | (apply Go.gives; (· exact aRes))
              | (with_reducible refine Go.unroll ?_)
              | (refine Go.gt rfl ?_)
              | (refine Go.gf rfl ?_)
              | (with_reducible refine Go.join ?_)
              | (refine Go.lt' rfl ?_)
              | (refine Go.lf' rfl ?_)
              | ((with_reducible refine Go.bool ?_ ?_) <;> intro hc <;> (try simp only [List.length_map, ne_eq, hcs] at hc) <;> try (exfalso; omega))
              | ((with_reducible refine Res.eq ?_ ?_); (· exact aFit)))
        all_goals
          have hki2 : k = i := by omega
          rw [hki2] at hok
          have hb : shapedOk o = false := by
            have hco : coreOk (o.cores.take i) (o.cores.getD i default) = false := by
              simp only [coreOk, hcode, List.length_nil]; simp
            simp only [shapedOk]
            rw [hs, coresOk_at (by omega), hco]
            simp
          rw [hb]
      have hpos : 0 < (o.cores.getD i default).code.length := List.length_pos_iff.2 hcode
      repeat' (first
          | ((with_reducible refine Go.red ?_); conv => whnf)
          | (with_reducible refine Go.and ?_ ?_)
          | (with_reducible exact True.intro)
          | (with_reducible refine Go.far ?_)
          | ((with_reducible refine Apt.mk ?_); (try dsimp only); omega)
          | ((with_reducible refine Ask.mk ?_); first | exact aAsk | exact askIdx | exact aAsk2)
          | ((with_reducible refine Go.ari64 ?_ ?_ ?_); (· exact aBnd); (· exact aBnd))
          | ((with_reducible refine Go.ariu8 ?_ ?_ ?_); (· exact aBnd); (· exact aBnd))
          | (with_reducible refine Go.ari0 ?_)
          | (apply Go.elem; (· exact aElem))
          | (apply Go.row; (· exact aRow))
          | (apply Go.gives; (· exact aGives))
          | (apply Go.gives; (· exact aRes))
          | (with_reducible refine Go.unroll ?_)
          | (refine Go.gt rfl ?_)
          | (refine Go.gf rfl ?_)
          | (with_reducible refine Go.join ?_)
          | (refine Go.lt' rfl ?_)
          | (refine Go.lf' rfl ?_)
          | ((with_reducible refine Go.bool ?_ ?_) <;> intro hc <;> (try simp only [List.length_map, ne_eq, hcs] at hc) <;> try (exfalso; omega))
          | ((with_reducible refine Res.eq ?_ ?_); (· exact aFit)))
      · have hki2 : k = i := by omega
        rw [hki2] at hok
        have hb : shapedOk o = false := by
          have hco : coreOk (o.cores.take i) (o.cores.getD i default) = false := by
            simp only [coreOk, lastOk]
            grind
          simp only [shapedOk]
          rw [hs, coresOk_at (by omega), hco]
          simp
        rw [hb]
      · have hki2 : k = i := by omega
        rw [hki2] at hok
        have hb : coreOk (o.cores.take i) (o.cores.getD i default) = true := by
          simp only [coreOk, lastOk]
          grind
        refine ⟨i + 1, by omega, aLess, by omega, aNx, aRow, ?_⟩
        rw [hs, coresOk_at (by omega), hb, Bool.true_and]
    · rw [List.drop_eq_nil_of_le (by omega), coresOk] at hs
      have hb : shapedOk o = true := by
        simp only [shapedOk]
        rw [hs]
        grind
      rw [hb]
set_option maxHeartbeats 4000000 in
theorem rcheck_pure (o : Obj) (ho : o.Wf) : Pure Tryz.prog 6 [o.av] (fun r => r = checkAv o) := by
  refine Go.pure Tryz.func6 nm6 low6 res6 nt6 rfl ?_
  have hol := ho.corelen
  repeat' (first
    | ((with_reducible refine Go.red ?_); conv => whnf)
    | (with_reducible refine Go.and ?_ ?_)
    | (with_reducible exact True.intro)
    | (with_reducible refine Go.far ?_)
    | ((with_reducible refine Apt.mk ?_); (try dsimp only); omega)
    | ((with_reducible refine Ask.mk ?_); first | exact aAsk | exact aAsk2)
    | ((with_reducible refine Go.ari64 ?_ ?_ ?_); (· exact aBnd); (· exact aBnd))
    | ((with_reducible refine Go.ariu8 ?_ ?_ ?_); (· exact aBnd); (· exact aBnd))
    | (with_reducible refine Go.ari0 ?_)
    | (apply Go.elem; (· exact aElem))
    | (apply Go.row; (· exact aRow))
    | (apply Go.gives; (· exact aGives))
    | (apply Go.gives; (· exact aRes))
    | (with_reducible refine Go.unroll ?_)
    | ((with_reducible refine Go.callW (rshaped_pure o ho) ?_ ?_); (· exact aFit))
    | ((with_reducible refine Go.callJ (fun _ => rshaped_pure o ho) ?_ ?_); (· exact aFit))
    | ((with_reducible refine Go.callE (rshaped_pure o ho) ?_ ?_); (· exact aFit))
    | ((with_reducible refine Go.callF (fun _ => rshaped_pure o ho) ?_ ?_); (· exact aFit))
    | (refine Go.gt rfl ?_)
    | (refine Go.gf rfl ?_)
    | (with_reducible refine Go.join ?_)
    | (refine Go.lt' rfl ?_)
    | (refine Go.lf' rfl ?_)
    | ((with_reducible refine Go.bool ?_ ?_) <;> intro hc <;> (try simp only [List.length_map, ne_eq, hcs] at hc) <;> try (exfalso; omega))
    | ((with_reducible refine Res.eq ?_ ?_); (· exact aFit)))
  · simp [checkAv, hc]
  · refine Go.loop (fun i : Nat => [(1, .pt 0 1 0 0), (6, i64 i)]) (fun i H' n => i ≤ o.cores.length ∧ 1 ≤ n ∧ getH H' 0 = some (.row 25 5 .any [o.av]) ∧ bad2 o.mem.length o.cores 0 = bad2 o.mem.length (o.cores.drop i) i) (fun i => o.cores.length - i) 0 aLess ⟨Nat.zero_le _, aNx, aRow, rfl⟩ ?_
    rintro i H' n ⟨hi, hn, hr, hs⟩
    have hcl := (ho.at i).len
    repeat' (first
        | ((with_reducible refine Go.red ?_); conv => whnf)
        | (with_reducible refine Go.and ?_ ?_)
        | (with_reducible exact True.intro)
        | (with_reducible refine Go.far ?_)
        | ((with_reducible refine Apt.mk ?_); (try dsimp only); omega)
        | ((with_reducible refine Ask.mk ?_); first | exact aAsk | exact aAsk2)
        | ((with_reducible refine Go.ari64 ?_ ?_ ?_); (· exact aBnd); (· exact aBnd))
        | ((with_reducible refine Go.ariu8 ?_ ?_ ?_); (· exact aBnd); (· exact aBnd))
        | (with_reducible refine Go.ari0 ?_)
        | (apply Go.elem; (· exact aElem))
        | (apply Go.row; (· exact aRow))
        | (apply Go.gives; (· exact aGives))
        | (apply Go.gives; (· exact aRes))
        | (with_reducible refine Go.unroll ?_)
        | (refine Go.gt rfl ?_)
        | (refine Go.gf rfl ?_)
        | (with_reducible refine Go.join ?_)
        | (refine Go.lt' rfl ?_)
        | (refine Go.lf' rfl ?_)
        | ((with_reducible refine Go.bool ?_ ?_) <;> intro hc <;> (try simp only [List.length_map, ne_eq, hcs] at hc) <;> try (exfalso; omega))
        | ((with_reducible refine Res.eq ?_ ?_); (· exact aFit)))
    · refine Go.loop (fun k : Nat => [(1, .pt 0 1 0 0), (6, i64 i), (7, i64 k)]) (fun k H2 n2 => k ≤ (o.cores.getD i default).code.length ∧ 1 ≤ n2 ∧ getH H2 0 = some (.row 25 5 .any [o.av]) ∧ bad1 (o.cores.getD i default).code.length o.mem.length (o.cores.getD i default).code 0 = bad1 (o.cores.getD i default).code.length o.mem.length ((o.cores.getD i default).code.drop k) k) (fun k => (o.cores.getD i default).code.length - k) 0 aLess ⟨Nat.zero_le _, aNx, aRow, rfl⟩ ?_
      rintro k H2 n2 ⟨hk, hn2, hr2, hs2⟩
      repeat' (first
          | ((with_reducible refine Go.red ?_); conv => whnf)
          | (with_reducible refine Go.and ?_ ?_)
          | (with_reducible exact True.intro)
          | (with_reducible refine Go.far ?_)
          | ((with_reducible refine Apt.mk ?_); (try dsimp only); omega)
          | ((with_reducible refine Ask.mk ?_); first | exact aAsk | exact aAsk2)
          | ((with_reducible refine Go.ari64 ?_ ?_ ?_); (· exact aBnd); (· exact aBnd))
          | ((with_reducible refine Go.ariu8 ?_ ?_ ?_); (· exact aBnd); (· exact aBnd))
          | (with_reducible refine Go.ari0 ?_)
          | (apply Go.elem; (· exact aElem))
          | (apply Go.row; (· exact aRow))
          | (apply Go.gives; (· exact aGives))
          | (apply Go.gives; (· exact aRes))
          | (with_reducible refine Go.unroll ?_)
          | ((with_reducible refine Go.callW (rRight_pure _ ((ho.at _).at _) _ _) ?_ ?_); (· exact aFit))
          | ((with_reducible refine Go.callJ (fun _ => rRight_pure _ ((ho.at _).at _) _ _) ?_ ?_); (· exact aFit))
          | ((with_reducible refine Go.callE (rRight_pure _ ((ho.at _).at _) _ _) ?_ ?_); (· exact aFit))
          | ((with_reducible refine Go.callF (fun _ => rRight_pure _ ((ho.at _).at _) _ _) ?_ ?_); (· exact aFit))
          | (refine Go.gt rfl ?_)
          | (refine Go.gf rfl ?_)
          | (with_reducible refine Go.join ?_)
          | (refine Go.lt' rfl ?_)
          | (refine Go.lf' rfl ?_)
          | ((with_reducible refine Go.bool ?_ ?_) <;> intro hc <;> (try simp only [List.length_map, ne_eq, hcs] at hc) <;> try (exfalso; omega))
          | ((with_reducible refine Res.eq ?_ ?_); (· exact aFit)))
      · have h1 : bad1 (o.cores.getD i default).code.length o.mem.length (o.cores.getD i default).code 0 = some k := by
          rw [hs2, drop_cons (by omega), bad1, if_neg (by rw [hc]; simp)]
        have h2 : bad2 o.mem.length o.cores 0 = some (i, k) := by
          rw [hs, drop_cons (by omega), bad2, h1]
        rw [checkAv, if_pos (by assumption), h2]
      · refine ⟨k + 1, by omega, aLess, by omega, aNx, aRow, ?_⟩
        rw [hs2, drop_cons (by omega), bad1, if_pos hc]
      · have h1 : bad1 (o.cores.getD i default).code.length o.mem.length (o.cores.getD i default).code 0 = none := by
          rw [hs2, List.drop_eq_nil_of_le (by omega), bad1]
        refine ⟨i + 1, by omega, aLess, by omega, aNx, aRow, ?_⟩
        rw [hs, drop_cons (by omega), bad2, h1]
    · rw [List.drop_eq_nil_of_le (by omega), bad2] at hs
      rw [checkAv, if_pos (by assumption), hs]
end Go.Proofs.YtliabecchkolgaaGreat
