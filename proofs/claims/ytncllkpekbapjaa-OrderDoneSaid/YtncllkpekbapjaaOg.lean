/- Coherent, plain, tso: what the program answers. -/
import Derived.Test.YtncllkpekbapjaaOf
namespace Go.Proofs.Ytncllkpekbapjaa
open Go Go.Abs Go.Proofs
set_option linter.unusedSimpArgs false
set_option linter.unusedVariables false
def cohF (x : Exec) (k : Int) (a b : Nat) : Bool := decide (k ≠ 0) || (decide ((x.ev a).thing = (x.ev b).thing) && decide ((x.ev a).kind ≠ 4) && decide ((x.ev b).kind ≠ 4))
def tsoF (x : Exec) (k : Int) (a b : Nat) : Bool := if k = 1 then decide ((x.ev a).thread ≠ (x.ev b).thread) else if k = 0 then decide ((x.ev a).kind ≠ 2) || decide ((x.ev b).kind ≠ 1) else true
abbrev boxV (x : Exec) : AV := .ip 4 .any [x.av] 0 0
set_option maxHeartbeats 2000000 in
theorem coh_pure (x : Exec) (k a b : Nat) (ha : a < x.events.length) (hb : b < x.events.length) : Pure Try.prog 34 [u8 k, i64 a, i64 b, boxV x] (fun r => r = bl (cohF x k a b)) := by
  refine Go.pure Try.func34 nm34 low34 res34 nt34 rfl ?_
  repeat' (first | ((with_reducible refine Go.red ?_); conv => whnf) | with_reducible (first | refine Go.and ?_ ?_ | exact True.intro | refine Go.far ?_ | exact Go.askRep | refine Go.unroll ?_ | refine Go.drawn ?_) | ((with_reducible refine Apt.mk ?_); (try dsimp only); omega) | ((with_reducible refine Ask.mk ?_); first | exact aAsk | exact aAsk2 | (intro h; simp_all [Exec.cells, Deed.cells] <;> fail) | (simp_all [Exec.cells, Deed.cells] <;> fail)) | ((with_reducible refine Go.ari64 ?_ ?_ ?_); (· exact aBnd); (· exact aBnd)) | ((with_reducible refine Go.ariu8 ?_ ?_ ?_); (· exact aBnd); (· exact aBnd)) | (with_reducible refine Go.ari0 ?_) | (apply Go.elem; (· (first | exact ev_get | exact int_get | exact lst_get | exact aElem))) | (apply Go.row; (· exact aRow)) | (apply Go.map; (· exact aRow)) | (apply Go.gives; (· exact aGives)) | (apply Go.gives; (· exact aRes)) | (refine Go.gt rfl ?_) | (refine Go.gf rfl ?_) | (with_reducible refine Go.join ?_) | (refine Go.lt' rfl ?_) | (refine Go.lf' rfl ?_) | ((with_reducible refine Go.bool ?_ ?_) <;> intro hc <;> (try simp only [List.length_map, ne_eq, hcs] at hc) <;> try (exfalso; omega)) | ((with_reducible refine Res.eq ?_ ?_); (· exact aFit)))
  all_goals
    refine bl_eq ?_
    rw [Bool.eq_iff_iff]
    simp only [cohF, ev_fold, fr_fold, Int.toNat_natCast, Bool.and_eq_true, Bool.or_eq_true, decide_eq_true_eq, Bool.ite_eq_true_distrib, Bool.false_eq_true] at *
    grind
set_option maxHeartbeats 2000000 in
theorem tsof_pure (x : Exec) (k a b : Nat) (ha : a < x.events.length) (hb : b < x.events.length) : Pure Try.prog 37 [u8 k, i64 a, i64 b, boxV x] (fun r => r = bl (tsoF x k a b)) := by
  refine Go.pure Try.func37 nm37 low37 res37 nt37 rfl ?_
  repeat' (first | ((with_reducible refine Go.red ?_); conv => whnf) | with_reducible (first | refine Go.and ?_ ?_ | exact True.intro | refine Go.far ?_ | exact Go.askRep | refine Go.unroll ?_ | refine Go.drawn ?_) | ((with_reducible refine Apt.mk ?_); (try dsimp only); omega) | ((with_reducible refine Ask.mk ?_); first | exact aAsk | exact aAsk2 | (intro h; simp_all [Exec.cells, Deed.cells] <;> fail) | (simp_all [Exec.cells, Deed.cells] <;> fail)) | ((with_reducible refine Go.ari64 ?_ ?_ ?_); (· exact aBnd); (· exact aBnd)) | ((with_reducible refine Go.ariu8 ?_ ?_ ?_); (· exact aBnd); (· exact aBnd)) | (with_reducible refine Go.ari0 ?_) | (apply Go.elem; (· (first | exact ev_get | exact int_get | exact lst_get | exact aElem))) | (apply Go.row; (· exact aRow)) | (apply Go.map; (· exact aRow)) | (apply Go.gives; (· exact aGives)) | (apply Go.gives; (· exact aRes)) | (refine Go.gt rfl ?_) | (refine Go.gf rfl ?_) | (with_reducible refine Go.join ?_) | (refine Go.lt' rfl ?_) | (refine Go.lf' rfl ?_) | ((with_reducible refine Go.bool ?_ ?_) <;> intro hc <;> (try simp only [List.length_map, ne_eq, hcs] at hc) <;> try (exfalso; omega)) | ((with_reducible refine Res.eq ?_ ?_); (· exact aFit)))
  all_goals
    refine bl_eq ?_
    rw [Bool.eq_iff_iff]
    simp only [tsoF, ev_fold, fr_fold, Int.toNat_natCast, Bool.and_eq_true, Bool.or_eq_true, decide_eq_true_eq, Bool.ite_eq_true_distrib, Bool.false_eq_true] at *
    grind
theorem every_pure (k a b : Nat) : Pure Try.prog 36 [u8 k, i64 a, i64 b] (fun r => r = bl true) := by
  refine Go.pure Try.func36 nm36 low36 res36 nt36 rfl ?_
  repeat' (first | ((with_reducible refine Go.red ?_); conv => whnf) | with_reducible (first | refine Go.and ?_ ?_ | exact True.intro | refine Go.far ?_ | exact Go.askRep | refine Go.unroll ?_ | refine Go.drawn ?_) | ((with_reducible refine Apt.mk ?_); (try dsimp only); omega) | ((with_reducible refine Ask.mk ?_); first | exact aAsk | exact aAsk2) | ((with_reducible refine Go.ari64 ?_ ?_ ?_); (· exact aBnd); (· exact aBnd)) | ((with_reducible refine Go.ariu8 ?_ ?_ ?_); (· exact aBnd); (· exact aBnd)) | (with_reducible refine Go.ari0 ?_) | (apply Go.elem; (· exact aElem)) | (apply Go.row; (· exact aRow)) | (apply Go.map; (· exact aRow)) | (apply Go.gives; (· exact aGives)) | (apply Go.gives; (· exact aRes)) | (refine Go.gt rfl ?_) | (refine Go.gf rfl ?_) | (with_reducible refine Go.join ?_) | (refine Go.lt' rfl ?_) | (refine Go.lf' rfl ?_) | ((with_reducible refine Go.bool ?_ ?_) <;> intro hc <;> (try simp only [List.length_map, ne_eq, hcs] at hc) <;> try (exfalso; omega)) | ((with_reducible refine Res.eq ?_ ?_); (· exact aFit)))
  exact rfl
theorem frz_clo {x : Exec} {g : FuncId} {H : Hp} {b : Nat} {e : TypeId} {d : AV} (h : getH H b = some (.row e 4 d [x.av])) : [x.av, .fn (.func g) [] [.pt b 1 0 0]].map (frz H 6) = [x.av, .fn (.func g) [] [boxV x]] := by
  have e1 : ∀ k, frz H k x.av = x.av := fun k => frz_fit k (by simp [fitA])
  have e2 : frz H 5 (.pt b 1 0 0) = boxV x := by
    refine (frz_at (k := 4) (len := 1) (i := 0) (off := 0) h rfl).trans ?_
    simp only [List.map_cons, List.map_nil, e1]
  have e3 : frz H 6 (.fn (.func g) [] [.pt b 1 0 0]) = .fn (.func g) [] [frz H 5 (.pt b 1 0 0)] := by rw [frz]; rfl
  simp only [List.map_cons, List.map_nil, e1, e2, e3]
theorem frz_cle {x : Exec} {g : FuncId} {H : Hp} : [x.av, .fn (.func g) [] []].map (frz H 6) = [x.av, .fn (.func g) [] []] := by
  have e1 : ∀ k, frz H k x.av = x.av := fun k => frz_fit k (by simp [fitA])
  have e3 : frz H 6 (.fn (.func g) [] []) = .fn (.func g) [] [] := by rw [frz]; rfl
  simp only [List.map_cons, List.map_nil, e1, e3]
set_option maxHeartbeats 4000000 in
theorem free_v (x : Exec) (h : Fine x) (g : FuncId) (cf : Int → Nat → Nat → Bool)
    (hcl : ∀ (k a b : Nat), k < 4 → a < x.events.length → b < x.events.length → Pure Try.prog g [u8 k, i64 a, i64 b, boxV x] (fun r => r = bl (cf k a b)))
    (b nx : Nat) (H : Hp) (e : TypeId) (d : AV) (hb : b < nx) (hr : getH H b = some (.row e 4 d [x.av])) :
    Look Try.prog 33 [x.av, .fn (.func g) [] [.pt b 1 0 0]] H nx (bl (!ringB x.events.length (arrM x cf))) := by
  have hfew := h.few
  refine Go.lookAt Try.func33 nm33 low33 res33 nt33 rfl ?_
  repeat' (first | ((with_reducible refine Go.red ?_); conv => whnf) | with_reducible (first | refine Go.and ?_ ?_ | exact True.intro | refine Go.far ?_ | exact Go.askRep | refine Go.unroll ?_ | refine Go.drawn ?_) | ((with_reducible refine Apt.mk ?_); (try dsimp only); omega) | ((with_reducible refine Ask.mk ?_); first | exact aAsk | exact aAsk2) | ((with_reducible refine Go.ari64 ?_ ?_ ?_); (· exact aBnd); (· exact aBnd)) | ((with_reducible refine Go.ariu8 ?_ ?_ ?_); (· exact aBnd); (· exact aBnd)) | (with_reducible refine Go.ari0 ?_) | (apply Go.elem; (· (first | exact ev_get | exact aElem))) | (apply Go.row; (· exact aRow)) | (apply Go.map; (· exact aRow)) | (apply Go.gives; (· exact aGives)) | (apply Go.gives; (· exact aRes)) | ((refine Go.freshPE [b] .any (arrows_v x h g (boxV x) (by simp [fitA, fitL]) cf hcl) (flat_mat _) (fun H1 h1 => frz_clo ((h1 b (by simp)).trans aRow)) (by simp [fitL, fitA]) ?_)) | (refine Go.gt rfl ?_) | (refine Go.gf rfl ?_) | (with_reducible refine Go.join ?_) | (refine Go.lt' rfl ?_) | (refine Go.lf' rfl ?_) | ((with_reducible refine Go.bool ?_ ?_) <;> intro hc <;> (try simp only [List.length_map, ne_eq, hcs] at hc) <;> try (exfalso; omega)) | ((with_reducible refine Res.eq ?_ ?_); (· exact aFit)))
  simp only [List.length_map]
  refine Go.callN (ring_call x.events.length (nx + 1 + 1 + 1 + 1) _ _ .any (arrM x cf) hfew aNx aRow) ?_
  rintro _ H2 n2 ⟨rfl, hn2, hfr⟩
  repeat' (first | ((with_reducible refine Go.red ?_); conv => whnf) | with_reducible (first | refine Go.and ?_ ?_ | exact True.intro | refine Go.far ?_ | exact Go.askRep | refine Go.unroll ?_ | refine Go.drawn ?_) | ((with_reducible refine Apt.mk ?_); (try dsimp only); omega) | ((with_reducible refine Ask.mk ?_); first | exact aAsk | exact aAsk2) | ((with_reducible refine Go.ari64 ?_ ?_ ?_); (· exact aBnd); (· exact aBnd)) | ((with_reducible refine Go.ariu8 ?_ ?_ ?_); (· exact aBnd); (· exact aBnd)) | (with_reducible refine Go.ari0 ?_) | (apply Go.elem; (· exact aElem)) | (apply Go.row; (· exact aRow)) | (apply Go.map; (· exact aRow)) | (apply Go.gives; (· exact aGives)) | (apply Go.gives; (· exact aRes)) | (refine Go.gt rfl ?_) | (refine Go.gf rfl ?_) | (with_reducible refine Go.join ?_) | (refine Go.lt' rfl ?_) | (refine Go.lf' rfl ?_) | ((with_reducible refine Go.bool ?_ ?_) <;> intro hc <;> (try simp only [List.length_map, ne_eq, hcs] at hc) <;> try (exfalso; omega)) | ((with_reducible refine Res.eq ?_ ?_); (· exact aFit)))
  refine ⟨⟨rfl, fun y hy => ?_⟩⟩
  refine Eq.trans (hfr y (by simp only [List.length_cons, List.length_nil]; omega) (by omega)) ?_
  repeat (first | exact rfl | (refine Eq.trans (getH_skipEq (by omega)) ?_))
set_option maxHeartbeats 4000000 in
theorem free_e (x : Exec) (h : Fine x) (b nx : Nat) (H : Hp) :
    Look Try.prog 33 [x.av, .fn (.func 36) [] []] H nx (bl (!ringB x.events.length (arrM x fun _ _ _ => true))) := by
  have hfew := h.few
  refine Go.lookAt Try.func33 nm33 low33 res33 nt33 rfl ?_
  repeat' (first | ((with_reducible refine Go.red ?_); conv => whnf) | with_reducible (first | refine Go.and ?_ ?_ | exact True.intro | refine Go.far ?_ | exact Go.askRep | refine Go.unroll ?_ | refine Go.drawn ?_) | ((with_reducible refine Apt.mk ?_); (try dsimp only); omega) | ((with_reducible refine Ask.mk ?_); first | exact aAsk | exact aAsk2) | ((with_reducible refine Go.ari64 ?_ ?_ ?_); (· exact aBnd); (· exact aBnd)) | ((with_reducible refine Go.ariu8 ?_ ?_ ?_); (· exact aBnd); (· exact aBnd)) | (with_reducible refine Go.ari0 ?_) | (apply Go.elem; (· (first | exact ev_get | exact aElem))) | (apply Go.row; (· exact aRow)) | (apply Go.map; (· exact aRow)) | (apply Go.gives; (· exact aGives)) | (apply Go.gives; (· exact aRes)) | ((refine Go.freshPE [] .any (arrows_e x h 36 (fun _ _ _ => true) (fun k a b _ _ _ => every_pure k a b)) (flat_mat _) (fun H1 h1 => frz_cle) (by simp [fitL, fitA]) ?_)) | (refine Go.gt rfl ?_) | (refine Go.gf rfl ?_) | (with_reducible refine Go.join ?_) | (refine Go.lt' rfl ?_) | (refine Go.lf' rfl ?_) | ((with_reducible refine Go.bool ?_ ?_) <;> intro hc <;> (try simp only [List.length_map, ne_eq, hcs] at hc) <;> try (exfalso; omega)) | ((with_reducible refine Res.eq ?_ ?_); (· exact aFit)))
  simp only [List.length_map]
  refine Go.callN (ring_call x.events.length (nx + 1 + 1 + 1 + 1) _ _ .any (arrM x fun _ _ _ => true) hfew aNx aRow) ?_
  rintro _ H2 n2 ⟨rfl, hn2, hfr⟩
  repeat' (first | ((with_reducible refine Go.red ?_); conv => whnf) | with_reducible (first | refine Go.and ?_ ?_ | exact True.intro | refine Go.far ?_ | exact Go.askRep | refine Go.unroll ?_ | refine Go.drawn ?_) | ((with_reducible refine Apt.mk ?_); (try dsimp only); omega) | ((with_reducible refine Ask.mk ?_); first | exact aAsk | exact aAsk2) | ((with_reducible refine Go.ari64 ?_ ?_ ?_); (· exact aBnd); (· exact aBnd)) | ((with_reducible refine Go.ariu8 ?_ ?_ ?_); (· exact aBnd); (· exact aBnd)) | (with_reducible refine Go.ari0 ?_) | (apply Go.elem; (· exact aElem)) | (apply Go.row; (· exact aRow)) | (apply Go.map; (· exact aRow)) | (apply Go.gives; (· exact aGives)) | (apply Go.gives; (· exact aRes)) | (refine Go.gt rfl ?_) | (refine Go.gf rfl ?_) | (with_reducible refine Go.join ?_) | (refine Go.lt' rfl ?_) | (refine Go.lf' rfl ?_) | ((with_reducible refine Go.bool ?_ ?_) <;> intro hc <;> (try simp only [List.length_map, ne_eq, hcs] at hc) <;> try (exfalso; omega)) | ((with_reducible refine Res.eq ?_ ?_); (· exact aFit)))
  refine ⟨⟨rfl, fun y hy => ?_⟩⟩
  refine Eq.trans (hfr y (by simp only [List.length_cons, List.length_nil]; omega) (by omega)) ?_
  repeat (first | exact rfl | (refine Eq.trans (getH_skipEq (by omega)) ?_))
end Go.Proofs.Ytncllkpekbapjaa
