/- The document's operators. -/
import Derived.Test.YtliabecchkolgaaGreatWd
import Derived.Test.YtliabecchkolgaaGreatWb
namespace Go.Proofs.YtliabecchkolgaaGreat
open Go Go.Abs Go.Proofs
set_option linter.unusedSimpArgs false
set_option linter.unusedVariables false
theorem rtruth_pure (t : Bool) : Pure Tryz.prog 75 [bl t] (fun r => r = .tup [i64 (tr t), i64 0]) := by
  refine Go.pure Tryz.func75 nm75 low75 res75 nt75 rfl ?_
  repeat' (first
    | ((with_reducible refine Go.red ?_); conv => whnf)
    | (with_reducible refine Go.and ?_ ?_)
    | (with_reducible exact True.intro)
    | (with_reducible refine Go.far ?_)
    | ((with_reducible refine Apt.mk ?_); (try dsimp only); omega)
    | ((with_reducible refine Ask.mk ?_); first | exact aAsk | exact aAsk2)
    | ((with_reducible refine Go.ari64 ?_ ?_ ?_); (· exact aBnd); (· exact aBnd))
    | ((with_reducible refine Go.ariu8 ?_ ?_ ?_); (· exact aBnd); (· exact aBnd))
    | (with_reducible refine Go.ari0 ?_)
    | (apply Go.elem; (· exact aElem))
    | (apply Go.row; (· exact aRow))
    | (apply Go.gives; (· exact aGives))
    | (apply Go.gives; (· exact aRes))
    | (with_reducible refine Go.unroll ?_)
    | (refine Go.gt rfl ?_)
    | (refine Go.gf rfl ?_)
    | (with_reducible refine Go.join ?_)
    | (refine Go.lt' rfl ?_)
    | (refine Go.lf' rfl ?_)
    | ((with_reducible refine Go.bool ?_ ?_) <;> intro hc <;> (try simp only [List.length_map, ne_eq, hcs] at hc) <;> try (exfalso; omega))
    | ((with_reducible refine Res.eq ?_ ?_); (· exact aFit)))
  all_goals simp_all [tr]
theorem rquot_pure (a b : Int) : Pure Tryz.prog 76 [i64 a, i64 b] (fun r => r = i64 (quoW a b)) := by
  refine Go.pure Tryz.func76 nm76 low76 res76 nt76 rfl ?_
  repeat' (first
    | ((with_reducible refine Go.red ?_); conv => whnf)
    | (with_reducible refine Go.and ?_ ?_)
    | (with_reducible exact True.intro)
    | (with_reducible refine Go.far ?_)
    | ((with_reducible refine Apt.mk ?_); (try dsimp only); omega)
    | ((with_reducible refine Ask.mk ?_); first | exact aAsk | exact aAsk2)
    | ((with_reducible refine Go.ari64 ?_ ?_ ?_); (· exact aBnd); (· exact aBnd))
    | ((with_reducible refine Go.ariu8 ?_ ?_ ?_); (· exact aBnd); (· exact aBnd))
    | (with_reducible refine Go.ari0 ?_)
    | (apply Go.elem; (· exact aElem))
    | (apply Go.row; (· exact aRow))
    | (apply Go.gives; (· exact aGives))
    | (apply Go.gives; (· exact aRes))
    | (with_reducible refine Go.unroll ?_)
    | (refine Go.gt rfl ?_)
    | (refine Go.gf rfl ?_)
    | (with_reducible refine Go.join ?_)
    | (refine Go.lt' rfl ?_)
    | (refine Go.lf' rfl ?_)
    | ((with_reducible refine Go.bool ?_ ?_) <;> intro hc <;> (try simp only [List.length_map, ne_eq, hcs] at hc) <;> try (exfalso; omega))
    | ((with_reducible refine Res.eq ?_ ?_); (· exact aFit)))
  all_goals simp_all [quoW]
theorem and63 (x : BitVec 64) : (x &&& BitVec.ofInt 64 63).toNat < 64 := by
  rw [BitVec.toNat_and, show (BitVec.ofInt 64 63).toNat = 63 by decide]
  exact Nat.lt_of_le_of_lt Nat.and_le_right (by decide)
theorem cnt_eq (b : Int) : IntKind.u64.wrap (w64 ((BitVec.ofInt 64 b &&& BitVec.ofInt 64 63).toNat : Int)) = cntW b := by
  have e : BitVec.ofInt 64 (IntKind.u64.wrap b) = BitVec.ofInt 64 b := by
    apply BitVec.eq_of_toInt_eq
    simp only [BitVec.toInt_ofInt]
    show Int.bmod (b % 18446744073709551616) (2 ^ 64) = Int.bmod b (2 ^ 64)
    exact Int.emod_bmod b 18446744073709551616
  rw [cntW, e]
  have h := and63 (BitVec.ofInt 64 b)
  congr 1
  generalize (BitVec.ofInt 64 b &&& BitVec.ofInt 64 63).toNat = y at h
  show IntKind.i64.wrap _ = _
  exact wrap64 (by omega) (by omega)
theorem cntW_pos (b : Int) : 0 ≤ cntW b := by
  rw [← cnt_eq]
  exact Int.emod_nonneg _ (by decide)
theorem rDo_two (op a b : Int) (h : two op = true) : Pure Tryz.prog 52 [u8 op, i64 a, i64 b] (fun r => r = .tup [i64 (twoW op a b), i64 0]) := by
  refine Go.pure Tryz.func52 nm52 low52 res52 nt52 rfl ?_
  rcases two_cases h with rfl | rfl | rfl | rfl | rfl | rfl | rfl | rfl | rfl | rfl | rfl | rfl | rfl | rfl | rfl | rfl
  all_goals repeat' (first
    | ((with_reducible refine Go.red ?_); conv => whnf)
    | (with_reducible refine Go.and ?_ ?_)
    | (with_reducible exact True.intro)
    | (with_reducible refine Go.far ?_)
    | ((with_reducible refine Apt.mk ?_); (try dsimp only); omega)
    | ((with_reducible refine Ask.mk ?_); first | exact aAsk | exact aAsk2)
    | ((with_reducible refine Go.ari64 ?_ ?_ ?_); (· exact aBnd); (· exact aBnd))
    | ((with_reducible refine Go.ariu8 ?_ ?_ ?_); (· exact aBnd); (· exact aBnd))
    | (with_reducible refine Go.ari0 ?_)
    | (apply Go.elem; (· exact aElem))
    | (apply Go.row; (· exact aRow))
    | (apply Go.gives; (· exact aGives))
    | (apply Go.gives; (· exact aRes))
    | (with_reducible refine Go.unroll ?_)
    | ((with_reducible refine Go.callW (rtruth_pure _) ?_ ?_); (· exact aFit))
    | ((with_reducible refine Go.callJ (fun _ => rtruth_pure _) ?_ ?_); (· exact aFit))
    | ((with_reducible refine Go.callE (rtruth_pure _) ?_ ?_); (· exact aFit))
    | ((with_reducible refine Go.callF (fun _ => rtruth_pure _) ?_ ?_); (· exact aFit))
    | ((with_reducible refine Go.callW (rquot_pure _ _) ?_ ?_); (· exact aFit))
    | ((with_reducible refine Go.callJ (fun _ => rquot_pure _ _) ?_ ?_); (· exact aFit))
    | ((with_reducible refine Go.callE (rquot_pure _ _) ?_ ?_); (· exact aFit))
    | ((with_reducible refine Go.callF (fun _ => rquot_pure _ _) ?_ ?_); (· exact aFit))
    | (refine Go.gt rfl ?_)
    | (refine Go.gf rfl ?_)
    | (with_reducible refine Go.join ?_)
    | (refine Go.lt' rfl ?_)
    | (refine Go.lf' rfl ?_)
    | ((with_reducible refine Go.bool ?_ ?_) <;> intro hc <;> (try simp only [List.length_map, ne_eq, hcs] at hc) <;> try (exfalso; omega))
    | ((with_reducible refine Res.eq ?_ ?_); (· exact aFit)))
  all_goals (first | exact rfl | (refine ⟨?_⟩; show 0 ≤ IntKind.u64.wrap (w64 ((BitVec.ofInt 64 b &&& BitVec.ofInt 64 63).toNat : Int)); rw [cnt_eq]; exact cntW_pos b) | skip)
  · rw [show twoW 5 a b = remW a b from rfl, remW, if_pos (by assumption)]
  · rw [show twoW 5 a b = remW a b from rfl, remW, if_neg (by assumption)]
  · rw [show twoW 9 a b = shlW a b from rfl, shlW, ← cnt_eq]; rfl
  · rw [show twoW 10 a b = shrW a b from rfl, shrW, ← cnt_eq]; rfl
theorem rOne_one (op a : Int) (h : op = 17 ∨ op = 18) : Pure Tryz.prog 51 [u8 op, i64 a] (fun r => r = .tup [i64 (oneW op a), i64 0]) := by
  refine Go.pure Tryz.func51 nm51 low51 res51 nt51 rfl ?_
  rcases h with rfl | rfl
  all_goals repeat' (first
    | ((with_reducible refine Go.red ?_); conv => whnf)
    | (with_reducible refine Go.and ?_ ?_)
    | (with_reducible exact True.intro)
    | (with_reducible refine Go.far ?_)
    | ((with_reducible refine Apt.mk ?_); (try dsimp only); omega)
    | ((with_reducible refine Ask.mk ?_); first | exact aAsk | exact aAsk2)
    | ((with_reducible refine Go.ari64 ?_ ?_ ?_); (· exact aBnd); (· exact aBnd))
    | ((with_reducible refine Go.ariu8 ?_ ?_ ?_); (· exact aBnd); (· exact aBnd))
    | (with_reducible refine Go.ari0 ?_)
    | (apply Go.elem; (· exact aElem))
    | (apply Go.row; (· exact aRow))
    | (apply Go.gives; (· exact aGives))
    | (apply Go.gives; (· exact aRes))
    | (with_reducible refine Go.unroll ?_)
    | ((with_reducible refine Go.callW (rtruth_pure _) ?_ ?_); (· exact aFit))
    | ((with_reducible refine Go.callJ (fun _ => rtruth_pure _) ?_ ?_); (· exact aFit))
    | ((with_reducible refine Go.callE (rtruth_pure _) ?_ ?_); (· exact aFit))
    | ((with_reducible refine Go.callF (fun _ => rtruth_pure _) ?_ ?_); (· exact aFit))
    | (refine Go.gt rfl ?_)
    | (refine Go.gf rfl ?_)
    | (with_reducible refine Go.join ?_)
    | (refine Go.lt' rfl ?_)
    | (refine Go.lf' rfl ?_)
    | ((with_reducible refine Go.bool ?_ ?_) <;> intro hc <;> (try simp only [List.length_map, ne_eq, hcs] at hc) <;> try (exfalso; omega))
    | ((with_reducible refine Res.eq ?_ ?_); (· exact aFit)))
  all_goals (first | exact rfl | trace_state)
theorem rOne_not (op a : Int) (h : op ≠ 17) (h2 : op ≠ 18) : Pure Tryz.prog 51 [u8 op, i64 a] (fun r => r = .tup [i64 0, i64 2]) := by
  refine Go.pure Tryz.func51 nm51 low51 res51 nt51 rfl ?_
  repeat' (first
    | ((with_reducible refine Go.red ?_); conv => whnf)
    | (with_reducible refine Go.and ?_ ?_)
    | (with_reducible exact True.intro)
    | (with_reducible refine Go.far ?_)
    | ((with_reducible refine Apt.mk ?_); (try dsimp only); omega)
    | ((with_reducible refine Ask.mk ?_); first | exact aAsk | exact aAsk2)
    | ((with_reducible refine Go.ari64 ?_ ?_ ?_); (· exact aBnd); (· exact aBnd))
    | ((with_reducible refine Go.ariu8 ?_ ?_ ?_); (· exact aBnd); (· exact aBnd))
    | (with_reducible refine Go.ari0 ?_)
    | (apply Go.elem; (· exact aElem))
    | (apply Go.row; (· exact aRow))
    | (apply Go.gives; (· exact aGives))
    | (apply Go.gives; (· exact aRes))
    | (with_reducible refine Go.unroll ?_)
    | ((with_reducible refine Go.callW (rtruth_pure _) ?_ ?_); (· exact aFit))
    | ((with_reducible refine Go.callJ (fun _ => rtruth_pure _) ?_ ?_); (· exact aFit))
    | ((with_reducible refine Go.callE (rtruth_pure _) ?_ ?_); (· exact aFit))
    | ((with_reducible refine Go.callF (fun _ => rtruth_pure _) ?_ ?_); (· exact aFit))
    | (refine Go.gt rfl ?_)
    | (refine Go.gf rfl ?_)
    | (with_reducible refine Go.join ?_)
    | (refine Go.lt' rfl ?_)
    | (refine Go.lf' rfl ?_)
    | ((with_reducible refine Go.bool ?_ ?_) <;> intro hc <;> (try simp only [List.length_map, ne_eq, hcs] at hc) <;> try (exfalso; omega))
    | ((with_reducible refine Res.eq ?_ ?_); (· exact aFit)))
  exact rfl
theorem rOne_any (op a : Int) : Pure Tryz.prog 51 [u8 op, i64 a] (fun r => r = .tup [i64 (if op = 17 ∨ op = 18 then oneW op a else 0), i64 (if op = 17 ∨ op = 18 then 0 else 2)]) := by
  by_cases h : op = 17 ∨ op = 18
  · simp only [if_pos h]; exact rOne_one op a h
  · simp only [if_neg h]; exact rOne_not op a (fun h1 => h (.inl h1)) (fun h1 => h (.inr h1))
end Go.Proofs.YtliabecchkolgaaGreat
