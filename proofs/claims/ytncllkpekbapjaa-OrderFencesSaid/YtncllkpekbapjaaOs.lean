/- The walk of OrderFences. -/
import Derived.Test.YtncllkpekbapjaaOr
namespace Go.Proofs.Ytncllkpekbapjaa
open Go Go.Abs Go.Proofs
set_option linter.unusedSimpArgs false
set_option linter.unusedVariables false

set_option maxHeartbeats 4000000 in
theorem fenced_pure (x : Exec) (hx : x.Wf) (hfew : x.events.length ≤ 64) : Pure Try.prog 20 [x.av] (fun r => r = bl (fencB x)) := by
  refine Go.pure Try.func20 nm20 low20 res20 nt20 rfl ?_
  repeat' (first
    | ((with_reducible refine Go.red ?_); conv => whnf)
    | (with_reducible refine Go.and ?_ ?_)
    | (with_reducible exact True.intro)
    | (with_reducible refine Go.far ?_)
    | ((with_reducible refine Apt.mk ?_); (try dsimp only); omega)
    | (with_reducible exact Go.askRep)
    | ((with_reducible refine Ask.mk ?_); first | exact aAsk | exact aAsk2 | (intro h; simp_all [Exec.cells, Deed.cells] <;> fail) | (simp_all [Exec.cells, Deed.cells] <;> fail))
    | ((with_reducible refine Go.ari64 ?_ ?_ ?_); (· exact aBnd); (· exact aBnd))
    | ((with_reducible refine Go.ariu8 ?_ ?_ ?_); (· exact aBnd); (· exact aBnd))
    | (with_reducible refine Go.ari0 ?_)
    | (apply Go.elem; (· (first | exact ev_get | exact aElem)))
    | (apply Go.row; (· exact aRow))
    | (apply Go.map; (· exact aRow))
    | (apply Go.gives; (· exact aGives))
    | (apply Go.gives; (· exact aRes))
    | (with_reducible refine Go.unroll ?_)
    | (with_reducible refine Go.drawn ?_)
    | (refine Go.gt rfl ?_)
    | (refine Go.gf rfl ?_)
    | (with_reducible refine Go.join ?_)
    | (refine Go.lt' rfl ?_)
    | (refine Go.lf' rfl ?_)
    | ((with_reducible refine Go.bool ?_ ?_) <;> intro hc <;> (try simp only [List.length_map, ne_eq, hcs] at hc) <;> try (exfalso; omega))
    | ((with_reducible refine Res.eq ?_ ?_); (· exact aFit)))
  refine Go.loop (fun i : Nat => [(1, .pt 0 1 0 0), (3, i64 i)])
    (fun i H n => i ≤ x.events.length ∧ 1 ≤ n ∧ getH H 0 = some (.row 27 4 .any [x.av]) ∧ fencB x = fencF x (x.events.length - i) i) (fun i => x.events.length - i) 0 aLess ⟨Nat.zero_le _, aNx, aRow, rfl⟩ ?_
  rintro i H n ⟨hi, hn, r0, hb⟩
  by_cases hil : i < x.events.length
  · have e : x.events.length - i = (x.events.length - (i + 1)) + 1 := by omega
    rw [e, fencF] at hb
    by_cases hk : (x.ev i).kind ≠ 2
    · rw [if_pos hk] at hb
      have hkd : decide ((x.ev i).kind ≠ 2) = true := decide_eq_true hk
      repeat' (first
          | ((with_reducible refine Go.red ?_); conv => whnf)
          | (with_reducible refine Go.and ?_ ?_)
          | (with_reducible exact True.intro)
          | (with_reducible refine Go.far ?_)
          | ((with_reducible refine Apt.mk ?_); (try dsimp only); omega)
          | (with_reducible exact Go.askRep)
          | ((with_reducible refine Ask.mk ?_); first | exact aAsk | exact aAsk2 | (intro h; simp_all [Exec.cells, Deed.cells] <;> fail) | (simp_all [Exec.cells, Deed.cells] <;> fail))
          | ((with_reducible refine Go.ari64 ?_ ?_ ?_); (· exact aBnd); (· exact aBnd))
          | ((with_reducible refine Go.ariu8 ?_ ?_ ?_); (· exact aBnd); (· exact aBnd))
          | (with_reducible refine Go.ari0 ?_)
          | (apply Go.elem; (· (first | exact ev_get | exact aElem)))
          | (apply Go.row; (· exact aRow))
          | (apply Go.map; (· exact aRow))
          | (apply Go.gives; (· exact aGives))
          | (apply Go.gives; (· exact aRes))
          | (with_reducible refine Go.unroll ?_)
          | (with_reducible refine Go.drawn ?_)
          | (simp only [Int.toNat_natCast])
          | (simp only [hkd])
          | (refine Go.gt rfl ?_)
          | (refine Go.gf rfl ?_)
          | (with_reducible refine Go.join ?_)
          | (refine Go.lt' rfl ?_)
          | (refine Go.lf' rfl ?_)
          | ((with_reducible refine Go.bool ?_ ?_) <;> intro hc <;> (try simp only [List.length_map, ne_eq, hcs] at hc) <;> try (exfalso; omega))
          | ((with_reducible refine Res.eq ?_ ?_); (· exact aFit)))
      exact ⟨i + 1, by omega, aLess, by omega, aNx, aRow, hb⟩
    · rw [if_neg hk] at hb
      have hkd : decide ((x.ev i).kind ≠ 2) = false := decide_eq_false hk
      repeat' (first
          | ((with_reducible refine Go.red ?_); conv => whnf)
          | (with_reducible refine Go.and ?_ ?_)
          | (with_reducible exact True.intro)
          | (with_reducible refine Go.far ?_)
          | ((with_reducible refine Apt.mk ?_); (try dsimp only); omega)
          | (with_reducible exact Go.askRep)
          | ((with_reducible refine Ask.mk ?_); first | exact aAsk | exact aAsk2 | (intro h; simp_all [Exec.cells, Deed.cells] <;> fail) | (simp_all [Exec.cells, Deed.cells] <;> fail))
          | ((with_reducible refine Go.ari64 ?_ ?_ ?_); (· exact aBnd); (· exact aBnd))
          | ((with_reducible refine Go.ariu8 ?_ ?_ ?_); (· exact aBnd); (· exact aBnd))
          | (with_reducible refine Go.ari0 ?_)
          | (apply Go.elem; (· (first | exact ev_get | exact aElem)))
          | (apply Go.row; (· exact aRow))
          | (apply Go.map; (· exact aRow))
          | (apply Go.gives; (· exact aGives))
          | (apply Go.gives; (· exact aRes))
          | (with_reducible refine Go.unroll ?_)
          | (with_reducible refine Go.drawn ?_)
          | (simp only [Int.toNat_natCast])
          | (simp only [hkd])
          | (refine Go.gt rfl ?_)
          | (refine Go.gf rfl ?_)
          | (with_reducible refine Go.join ?_)
          | (refine Go.lt' rfl ?_)
          | (refine Go.lf' rfl ?_)
          | ((with_reducible refine Go.bool ?_ ?_) <;> intro hc <;> (try simp only [List.length_map, ne_eq, hcs] at hc) <;> try (exfalso; omega))
          | ((with_reducible refine Res.eq ?_ ?_); (· exact aFit)))
      refine Go.loop (fun k : Nat => [(1, .pt 0 1 0 0), (3, i64 i), (4, i64 k)])
        (fun k H n => i < k ∧ k ≤ x.events.length ∧ 1 ≤ n ∧ getH H 0 = some (.row 27 4 .any [x.av]) ∧ scanF x (x.ev i).thread (x.events.length - (i + 1)) (i + 1) = scanF x (x.ev i).thread (x.events.length - k) k) (fun k => x.events.length - k) (i + 1) aLess ⟨by omega, by omega, aNx, aRow, rfl⟩ ?_
      rintro k H2 n2 ⟨hik, hk2, hn2, r2, hs⟩
      by_cases hkl : k < x.events.length
      · have e2 : x.events.length - k = (x.events.length - (k + 1)) + 1 := by omega
        rw [e2, scanF] at hs
        by_cases ht : (x.ev k).thread ≠ (x.ev i).thread
        · rw [if_pos ht] at hs
          have htd : decide ((x.ev k).thread ≠ (x.ev i).thread) = true := decide_eq_true ht
          repeat' (first
              | ((with_reducible refine Go.red ?_); conv => whnf)
              | (with_reducible refine Go.and ?_ ?_)
              | (with_reducible exact True.intro)
              | (with_reducible refine Go.far ?_)
              | ((with_reducible refine Apt.mk ?_); (try dsimp only); omega)
              | (with_reducible exact Go.askRep)
              | ((with_reducible refine Ask.mk ?_); first | exact aAsk | exact aAsk2 | (intro h; simp_all [Exec.cells, Deed.cells] <;> fail) | (simp_all [Exec.cells, Deed.cells] <;> fail))
              | ((with_reducible refine Go.ari64 ?_ ?_ ?_); (· exact aBnd); (· exact aBnd))
              | ((with_reducible refine Go.ariu8 ?_ ?_ ?_); (· exact aBnd); (· exact aBnd))
              | (with_reducible refine Go.ari0 ?_)
              | (apply Go.elem; (· (first | exact ev_get | exact aElem)))
              | (apply Go.row; (· exact aRow))
              | (apply Go.map; (· exact aRow))
              | (apply Go.gives; (· exact aGives))
              | (apply Go.gives; (· exact aRes))
              | (with_reducible refine Go.unroll ?_)
              | (with_reducible refine Go.drawn ?_)
              | (simp only [Int.toNat_natCast])
              | (simp only [htd])
              | (refine Go.gt rfl ?_)
              | (refine Go.gf rfl ?_)
              | (with_reducible refine Go.join ?_)
              | (refine Go.lt' rfl ?_)
              | (refine Go.lf' rfl ?_)
              | ((with_reducible refine Go.bool ?_ ?_) <;> intro hc <;> (try simp only [List.length_map, ne_eq, hcs] at hc) <;> try (exfalso; omega))
              | ((with_reducible refine Res.eq ?_ ?_); (· exact aFit)))
          exact ⟨k + 1, by omega, aLess, by omega, by omega, aNx, aRow, hs⟩
        · rw [if_neg ht] at hs
          have htd : decide ((x.ev k).thread ≠ (x.ev i).thread) = false := decide_eq_false ht
          by_cases hf : (x.ev k).kind = 4 ∨ (x.ev k).kind = 3
          · rw [if_pos hf] at hs
            rw [hs, if_pos rfl] at hb
            have hfd : (if decide ((x.ev k).kind = 4) = true then true else decide ((x.ev k).kind = 3)) = true := by simpa using hf
            repeat' (first
                | ((with_reducible refine Go.red ?_); conv => whnf)
                | (with_reducible refine Go.and ?_ ?_)
                | (with_reducible exact True.intro)
                | (with_reducible refine Go.far ?_)
                | ((with_reducible refine Apt.mk ?_); (try dsimp only); omega)
                | (with_reducible exact Go.askRep)
                | ((with_reducible refine Ask.mk ?_); first | exact aAsk | exact aAsk2 | (intro h; simp_all [Exec.cells, Deed.cells] <;> fail) | (simp_all [Exec.cells, Deed.cells] <;> fail))
                | ((with_reducible refine Go.ari64 ?_ ?_ ?_); (· exact aBnd); (· exact aBnd))
                | ((with_reducible refine Go.ariu8 ?_ ?_ ?_); (· exact aBnd); (· exact aBnd))
                | (with_reducible refine Go.ari0 ?_)
                | (apply Go.elem; (· (first | exact ev_get | exact aElem)))
                | (apply Go.row; (· exact aRow))
                | (apply Go.map; (· exact aRow))
                | (apply Go.gives; (· exact aGives))
                | (apply Go.gives; (· exact aRes))
                | (with_reducible refine Go.unroll ?_)
                | (with_reducible refine Go.drawn ?_)
                | (simp only [Int.toNat_natCast])
                | (simp only [htd])
                | (simp only [hfd])
                | (refine Go.gt rfl ?_)
                | (refine Go.gf rfl ?_)
                | (with_reducible refine Go.join ?_)
                | (refine Go.lt' rfl ?_)
                | (refine Go.lf' rfl ?_)
                | ((with_reducible refine Go.bool ?_ ?_) <;> intro hc <;> (try simp only [List.length_map, ne_eq, hcs] at hc) <;> try (exfalso; omega))
                | ((with_reducible refine Res.eq ?_ ?_); (· exact aFit)))
            exact ⟨i + 1, by omega, aLess, by omega, aNx, aRow, hb⟩
          · rw [if_neg hf] at hs
            have hfd : (if decide ((x.ev k).kind = 4) = true then true else decide ((x.ev k).kind = 3)) = false := by simpa using hf
            by_cases hr : (x.ev k).kind = 1
            · rw [if_pos hr] at hs
              rw [hs, if_neg (by decide)] at hb
              have hrd : decide ((x.ev k).kind = 1) = true := decide_eq_true hr
              repeat' (first
                  | ((with_reducible refine Go.red ?_); conv => whnf)
                  | (with_reducible refine Go.and ?_ ?_)
                  | (with_reducible exact True.intro)
                  | (with_reducible refine Go.far ?_)
                  | ((with_reducible refine Apt.mk ?_); (try dsimp only); omega)
                  | (with_reducible exact Go.askRep)
                  | ((with_reducible refine Ask.mk ?_); first | exact aAsk | exact aAsk2 | (intro h; simp_all [Exec.cells, Deed.cells] <;> fail) | (simp_all [Exec.cells, Deed.cells] <;> fail))
                  | ((with_reducible refine Go.ari64 ?_ ?_ ?_); (· exact aBnd); (· exact aBnd))
                  | ((with_reducible refine Go.ariu8 ?_ ?_ ?_); (· exact aBnd); (· exact aBnd))
                  | (with_reducible refine Go.ari0 ?_)
                  | (apply Go.elem; (· (first | exact ev_get | exact aElem)))
                  | (apply Go.row; (· exact aRow))
                  | (apply Go.map; (· exact aRow))
                  | (apply Go.gives; (· exact aGives))
                  | (apply Go.gives; (· exact aRes))
                  | (with_reducible refine Go.unroll ?_)
                  | (with_reducible refine Go.drawn ?_)
                  | (simp only [Int.toNat_natCast])
                  | (simp only [htd])
                  | (simp only [hfd])
                  | (simp only [hrd])
                  | (refine Go.gt rfl ?_)
                  | (refine Go.gf rfl ?_)
                  | (with_reducible refine Go.join ?_)
                  | (refine Go.lt' rfl ?_)
                  | (refine Go.lf' rfl ?_)
                  | ((with_reducible refine Go.bool ?_ ?_) <;> intro hc <;> (try simp only [List.length_map, ne_eq, hcs] at hc) <;> try (exfalso; omega))
                  | ((with_reducible refine Res.eq ?_ ?_); (· exact aFit)))
              exact bl_eq hb.symm
            · rw [if_neg hr] at hs
              have hrd : decide ((x.ev k).kind = 1) = false := decide_eq_false hr
              repeat' (first
                  | ((with_reducible refine Go.red ?_); conv => whnf)
                  | (with_reducible refine Go.and ?_ ?_)
                  | (with_reducible exact True.intro)
                  | (with_reducible refine Go.far ?_)
                  | ((with_reducible refine Apt.mk ?_); (try dsimp only); omega)
                  | (with_reducible exact Go.askRep)
                  | ((with_reducible refine Ask.mk ?_); first | exact aAsk | exact aAsk2 | (intro h; simp_all [Exec.cells, Deed.cells] <;> fail) | (simp_all [Exec.cells, Deed.cells] <;> fail))
                  | ((with_reducible refine Go.ari64 ?_ ?_ ?_); (· exact aBnd); (· exact aBnd))
                  | ((with_reducible refine Go.ariu8 ?_ ?_ ?_); (· exact aBnd); (· exact aBnd))
                  | (with_reducible refine Go.ari0 ?_)
                  | (apply Go.elem; (· (first | exact ev_get | exact aElem)))
                  | (apply Go.row; (· exact aRow))
                  | (apply Go.map; (· exact aRow))
                  | (apply Go.gives; (· exact aGives))
                  | (apply Go.gives; (· exact aRes))
                  | (with_reducible refine Go.unroll ?_)
                  | (with_reducible refine Go.drawn ?_)
                  | (simp only [Int.toNat_natCast])
                  | (simp only [htd])
                  | (simp only [hfd])
                  | (simp only [hrd])
                  | (refine Go.gt rfl ?_)
                  | (refine Go.gf rfl ?_)
                  | (with_reducible refine Go.join ?_)
                  | (refine Go.lt' rfl ?_)
                  | (refine Go.lf' rfl ?_)
                  | ((with_reducible refine Go.bool ?_ ?_) <;> intro hc <;> (try simp only [List.length_map, ne_eq, hcs] at hc) <;> try (exfalso; omega))
                  | ((with_reducible refine Res.eq ?_ ?_); (· exact aFit)))
              exact ⟨k + 1, by omega, aLess, by omega, by omega, aNx, aRow, hs⟩
      · have : k = x.events.length := by omega
        subst this
        rw [Nat.sub_self, scanF] at hs
        rw [hs, if_pos rfl] at hb
        repeat' (first
            | ((with_reducible refine Go.red ?_); conv => whnf)
            | (with_reducible refine Go.and ?_ ?_)
            | (with_reducible exact True.intro)
            | (with_reducible refine Go.far ?_)
            | ((with_reducible refine Apt.mk ?_); (try dsimp only); omega)
            | (with_reducible exact Go.askRep)
            | ((with_reducible refine Ask.mk ?_); first | exact aAsk | exact aAsk2 | (intro h; simp_all [Exec.cells, Deed.cells] <;> fail) | (simp_all [Exec.cells, Deed.cells] <;> fail))
            | ((with_reducible refine Go.ari64 ?_ ?_ ?_); (· exact aBnd); (· exact aBnd))
            | ((with_reducible refine Go.ariu8 ?_ ?_ ?_); (· exact aBnd); (· exact aBnd))
            | (with_reducible refine Go.ari0 ?_)
            | (apply Go.elem; (· (first | exact ev_get | exact aElem)))
            | (apply Go.row; (· exact aRow))
            | (apply Go.map; (· exact aRow))
            | (apply Go.gives; (· exact aGives))
            | (apply Go.gives; (· exact aRes))
            | (with_reducible refine Go.unroll ?_)
            | (with_reducible refine Go.drawn ?_)
            | (refine Go.gt rfl ?_)
            | (refine Go.gf rfl ?_)
            | (with_reducible refine Go.join ?_)
            | (refine Go.lt' rfl ?_)
            | (refine Go.lf' rfl ?_)
            | ((with_reducible refine Go.bool ?_ ?_) <;> intro hc <;> (try simp only [List.length_map, ne_eq, hcs] at hc) <;> try (exfalso; omega))
            | ((with_reducible refine Res.eq ?_ ?_); (· exact aFit)))
        exact ⟨i + 1, by omega, aLess, by omega, aNx, aRow, hb⟩
  · have : i = x.events.length := by omega
    subst this
    rw [Nat.sub_self, fencF] at hb
    repeat' (first
        | ((with_reducible refine Go.red ?_); conv => whnf)
        | (with_reducible refine Go.and ?_ ?_)
        | (with_reducible exact True.intro)
        | (with_reducible refine Go.far ?_)
        | ((with_reducible refine Apt.mk ?_); (try dsimp only); omega)
        | (with_reducible exact Go.askRep)
        | ((with_reducible refine Ask.mk ?_); first | exact aAsk | exact aAsk2 | (intro h; simp_all [Exec.cells, Deed.cells] <;> fail) | (simp_all [Exec.cells, Deed.cells] <;> fail))
        | ((with_reducible refine Go.ari64 ?_ ?_ ?_); (· exact aBnd); (· exact aBnd))
        | ((with_reducible refine Go.ariu8 ?_ ?_ ?_); (· exact aBnd); (· exact aBnd))
        | (with_reducible refine Go.ari0 ?_)
        | (apply Go.elem; (· (first | exact ev_get | exact aElem)))
        | (apply Go.row; (· exact aRow))
        | (apply Go.map; (· exact aRow))
        | (apply Go.gives; (· exact aGives))
        | (apply Go.gives; (· exact aRes))
        | (with_reducible refine Go.unroll ?_)
        | (with_reducible refine Go.drawn ?_)
        | (refine Go.gt rfl ?_)
        | (refine Go.gf rfl ?_)
        | (with_reducible refine Go.join ?_)
        | (refine Go.lt' rfl ?_)
        | (refine Go.lf' rfl ?_)
        | ((with_reducible refine Go.bool ?_ ?_) <;> intro hc <;> (try simp only [List.length_map, ne_eq, hcs] at hc) <;> try (exfalso; omega))
        | ((with_reducible refine Res.eq ?_ ?_); (· exact aFit)))
    exact bl_eq hb.symm
def oneB (x : Exec) (i : Nat) : Bool := decide (∀ j, j < i → (x.ev j).thread = (x.ev 0).thread)
theorem oneB_succ (x : Exec) (i : Nat) : oneB x (i + 1) = (oneB x i && decide ((x.ev i).thread = (x.ev 0).thread)) := by
  rw [Bool.eq_iff_iff]
  simp only [oneB, decide_eq_true_eq, Bool.and_eq_true]
  exact ⟨fun h => ⟨fun j hj => h j (by omega), h i (by omega)⟩, fun h j hj => by
    by_cases hji : j = i
    · rw [hji]; exact h.2
    · exact h.1 j (by omega)⟩
set_option maxHeartbeats 4000000 in
theorem fences_pure (x : Exec) (hx : x.Wf) : Pure Try.prog 5 [x.av] (fun r => r = bl true) := by
  refine Go.pure Try.func5 nm5 low5 res5 nt5 rfl ?_
  have h1 := plain_pure x hx
  have h2 := tso_pure x hx
  have h3 := coherent_pure x hx
  cases hok : okB x with
  | false =>
    have he : errN x = 220 := by simp [errN, hok]
    rw [he] at h1 h2 h3
    repeat' (first
    | ((with_reducible refine Go.red ?_); conv => whnf)
    | (with_reducible refine Go.and ?_ ?_)
    | (with_reducible exact True.intro)
    | (with_reducible refine Go.far ?_)
    | ((with_reducible refine Apt.mk ?_); (try dsimp only); omega)
    | (with_reducible exact Go.askRep)
    | ((with_reducible refine Ask.mk ?_); first | exact aAsk | exact aAsk2 | (intro h; simp_all [Exec.cells, Deed.cells] <;> fail) | (simp_all [Exec.cells, Deed.cells] <;> fail))
    | ((with_reducible refine Go.ari64 ?_ ?_ ?_); (· exact aBnd); (· exact aBnd))
    | ((with_reducible refine Go.ariu8 ?_ ?_ ?_); (· exact aBnd); (· exact aBnd))
    | (with_reducible refine Go.ari0 ?_)
    | (apply Go.elem; (· (first | exact ev_get | exact aElem)))
    | (apply Go.row; (· exact aRow))
    | (apply Go.map; (· exact aRow))
    | (apply Go.gives; (· exact aGives))
    | (apply Go.gives; (· exact aRes))
    | (with_reducible refine Go.unroll ?_)
    | (with_reducible refine Go.drawn ?_)
    | ((with_reducible refine Go.callW (begins_pure) ?_ ?_); (· exact aFit))
    | ((with_reducible refine Go.callJ (fun _ => begins_pure) ?_ ?_); (· exact aFit))
    | ((with_reducible refine Go.callE (begins_pure) ?_ ?_); (· exact aFit))
    | ((with_reducible refine Go.callF (fun _ => begins_pure) ?_ ?_); (· exact aFit))
    | ((with_reducible refine Go.callW (h1) ?_ ?_); (· exact aFit))
    | ((with_reducible refine Go.callJ (fun _ => h1) ?_ ?_); (· exact aFit))
    | ((with_reducible refine Go.callE (h1) ?_ ?_); (· exact aFit))
    | ((with_reducible refine Go.callF (fun _ => h1) ?_ ?_); (· exact aFit))
    | ((with_reducible refine Go.callW (h2) ?_ ?_); (· exact aFit))
    | ((with_reducible refine Go.callJ (fun _ => h2) ?_ ?_); (· exact aFit))
    | ((with_reducible refine Go.callE (h2) ?_ ?_); (· exact aFit))
    | ((with_reducible refine Go.callF (fun _ => h2) ?_ ?_); (· exact aFit))
    | ((with_reducible refine Go.callW (h3) ?_ ?_); (· exact aFit))
    | ((with_reducible refine Go.callJ (fun _ => h3) ?_ ?_); (· exact aFit))
    | ((with_reducible refine Go.callE (h3) ?_ ?_); (· exact aFit))
    | ((with_reducible refine Go.callF (fun _ => h3) ?_ ?_); (· exact aFit))
    | (refine Go.gt rfl ?_)
    | (refine Go.gf rfl ?_)
    | (with_reducible refine Go.join ?_)
    | (refine Go.lt' rfl ?_)
    | (refine Go.lf' rfl ?_)
    | ((with_reducible refine Go.bool ?_ ?_) <;> intro hc <;> (try simp only [List.length_map, ne_eq, hcs] at hc) <;> try (exfalso; omega))
    | ((with_reducible refine Res.eq ?_ ?_); (· exact aFit)))
    exact rfl
  | true =>
    have he : errN x = 0 := by simp [errN, hok]
    rw [he] at h1 h2 h3
    have hfew := (fine_of hx hok).few
    have hF := fenced_pure x hx hfew
    repeat' (first
    | ((with_reducible refine Go.red ?_); conv => whnf)
    | (with_reducible refine Go.and ?_ ?_)
    | (with_reducible exact True.intro)
    | (with_reducible refine Go.far ?_)
    | ((with_reducible refine Apt.mk ?_); (try dsimp only); omega)
    | (with_reducible exact Go.askRep)
    | ((with_reducible refine Ask.mk ?_); first | exact aAsk | exact aAsk2 | (intro h; simp_all [Exec.cells, Deed.cells] <;> fail) | (simp_all [Exec.cells, Deed.cells] <;> fail))
    | ((with_reducible refine Go.ari64 ?_ ?_ ?_); (· exact aBnd); (· exact aBnd))
    | ((with_reducible refine Go.ariu8 ?_ ?_ ?_); (· exact aBnd); (· exact aBnd))
    | (with_reducible refine Go.ari0 ?_)
    | (apply Go.elem; (· (first | exact ev_get | exact aElem)))
    | (apply Go.row; (· exact aRow))
    | (apply Go.map; (· exact aRow))
    | (apply Go.gives; (· exact aGives))
    | (apply Go.gives; (· exact aRes))
    | (with_reducible refine Go.unroll ?_)
    | (with_reducible refine Go.drawn ?_)
    | ((with_reducible refine Go.callW (begins_pure) ?_ ?_); (· exact aFit))
    | ((with_reducible refine Go.callJ (fun _ => begins_pure) ?_ ?_); (· exact aFit))
    | ((with_reducible refine Go.callE (begins_pure) ?_ ?_); (· exact aFit))
    | ((with_reducible refine Go.callF (fun _ => begins_pure) ?_ ?_); (· exact aFit))
    | ((with_reducible refine Go.callW (h1) ?_ ?_); (· exact aFit))
    | ((with_reducible refine Go.callJ (fun _ => h1) ?_ ?_); (· exact aFit))
    | ((with_reducible refine Go.callE (h1) ?_ ?_); (· exact aFit))
    | ((with_reducible refine Go.callF (fun _ => h1) ?_ ?_); (· exact aFit))
    | ((with_reducible refine Go.callW (h2) ?_ ?_); (· exact aFit))
    | ((with_reducible refine Go.callJ (fun _ => h2) ?_ ?_); (· exact aFit))
    | ((with_reducible refine Go.callE (h2) ?_ ?_); (· exact aFit))
    | ((with_reducible refine Go.callF (fun _ => h2) ?_ ?_); (· exact aFit))
    | ((with_reducible refine Go.callW (h3) ?_ ?_); (· exact aFit))
    | ((with_reducible refine Go.callJ (fun _ => h3) ?_ ?_); (· exact aFit))
    | ((with_reducible refine Go.callE (h3) ?_ ?_); (· exact aFit))
    | ((with_reducible refine Go.callF (fun _ => h3) ?_ ?_); (· exact aFit))
    | (refine Go.gt rfl ?_)
    | (refine Go.gf rfl ?_)
    | (with_reducible refine Go.join ?_)
    | (refine Go.lt' rfl ?_)
    | (refine Go.lf' rfl ?_)
    | ((with_reducible refine Go.bool ?_ ?_) <;> intro hc <;> (try simp only [List.length_map, ne_eq, hcs] at hc) <;> try (exfalso; omega))
    | ((with_reducible refine Res.eq ?_ ?_); (· exact aFit)))
    refine Go.loop (fun i : Nat => [(1, .pt 0 1 0 0), (3, bl (tsoB x)), (5, bl (plainB x)), (7, bl (cohB x)), (9, bl (oneB x i)), (10, i64 i)])
      (fun i H n => i ≤ x.events.length ∧ 1 ≤ n ∧ getH H 0 = some (.row 27 4 .any [x.av])) (fun i => x.events.length - i) 0 aLess ⟨Nat.zero_le _, aNx, aRow⟩ ?_
    rintro i H n ⟨hi, hn, r0⟩
    have ho : oneB x (i + 1) = if oneB x i = true then decide ((x.ev i).thread = (x.ev 0).thread) else false := by rw [oneB_succ]; cases oneB x i <;> rfl
    repeat' (first
        | ((with_reducible refine Go.red ?_); conv => whnf)
        | (with_reducible refine Go.and ?_ ?_)
        | (with_reducible exact True.intro)
        | (with_reducible refine Go.far ?_)
        | ((with_reducible refine Apt.mk ?_); (try dsimp only); omega)
        | (with_reducible exact Go.askRep)
        | ((with_reducible refine Ask.mk ?_); first | exact aAsk | exact aAsk2 | (intro h; simp_all [Exec.cells, Deed.cells] <;> fail) | (simp_all [Exec.cells, Deed.cells] <;> fail))
        | ((with_reducible refine Go.ari64 ?_ ?_ ?_); (· exact aBnd); (· exact aBnd))
        | ((with_reducible refine Go.ariu8 ?_ ?_ ?_); (· exact aBnd); (· exact aBnd))
        | (with_reducible refine Go.ari0 ?_)
        | (apply Go.elem; (· (first | exact ev_get | exact aElem)))
        | (apply Go.row; (· exact aRow))
        | (apply Go.map; (· exact aRow))
        | (apply Go.gives; (· exact aGives))
        | (apply Go.gives; (· exact aRes))
        | (with_reducible refine Go.unroll ?_)
        | (with_reducible refine Go.drawn ?_)
        | ((with_reducible refine Go.callW (hF) ?_ ?_); (· exact aFit))
        | ((with_reducible refine Go.callJ (fun _ => hF) ?_ ?_); (· exact aFit))
        | ((with_reducible refine Go.callE (hF) ?_ ?_); (· exact aFit))
        | ((with_reducible refine Go.callF (fun _ => hF) ?_ ?_); (· exact aFit))
        | (refine Go.gt rfl ?_)
        | (refine Go.gf rfl ?_)
        | (with_reducible refine Go.join ?_)
        | (refine Go.lt' rfl ?_)
        | (refine Go.lf' rfl ?_)
        | ((with_reducible refine Go.bool ?_ ?_) <;> intro hc <;> (try simp only [List.length_map, ne_eq, hcs] at hc) <;> try (exfalso; omega))
        | ((with_reducible refine Res.eq ?_ ?_); (· exact aFit)))
    · refine ⟨i + 1, by omega, ?_, by omega, aNx, aRow⟩
      rw [ho]
      exact aLess
    · have hil : i = x.events.length := by omega
      subst hil
      refine bl_eq ?_
      have e1 : fencB x = true → tsoB x = plainB x := fun hf => by
        rw [Bool.eq_iff_iff]
        exact ⟨plain_of_tso hx hf, tso_of_plain⟩
      have e2 : oneB x x.events.length = true → cohB x = plainB x := fun ho => by
        rw [Bool.eq_iff_iff]
        exact ⟨plain_of_coh hx (fun j hj => (of_decide_eq_true (p := ∀ j, j < x.events.length → (x.ev j).thread = (x.ev 0).thread) ho) j hj), fun h => coh_of_tso (tso_of_plain h)⟩
      revert e1 e2
      cases fencB x <;> cases oneB x x.events.length <;> simp (config := { contextual := true })
end Go.Proofs.Ytncllkpekbapjaa
