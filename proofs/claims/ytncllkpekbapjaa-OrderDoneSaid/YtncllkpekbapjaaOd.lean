/- Arrows from one event to another. -/
import Derived.Test.YtncllkpekbapjaaOc
namespace Go.Proofs.Ytncllkpekbapjaa
open Go Go.Abs Go.Proofs
set_option linter.unusedSimpArgs false
set_option linter.unusedVariables false
def posI : List Int → Int → Nat → Int
  | [], _, _ => -1
  | a :: l, k, i => if k = a then i else posI l k (i + 1)
theorem posI_drop {l : List Int} {k : Int} {i : Nat} (h : i < l.length) : posI (l.drop i) k i = if k = l.getD i 0 then (i : Int) else posI (l.drop (i + 1)) k (i + 1) := by
  rw [List.drop_eq_getElem_cons h, posI, getD_el 0 h]
theorem index_pure (l : List Int) (k : Int) (hl : l.length * 8 ≤ 140737488351232) : Pure Try.prog 68 [imI l, i64 k] (fun r => r = i64 (posI l k 0)) := by
  refine Go.pure Try.func68 nm68 low68 res68 nt68 rfl ?_
  repeat' (first | ((with_reducible refine Go.red ?_); conv => whnf) | with_reducible (first | refine Go.and ?_ ?_ | exact True.intro | refine Go.far ?_ | exact Go.askRep | refine Go.unroll ?_ | refine Go.drawn ?_) | ((with_reducible refine Apt.mk ?_); (try dsimp only); omega) | ((with_reducible refine Ask.mk ?_); first | exact aAsk | exact aAsk2) | ((with_reducible refine Go.ari64 ?_ ?_ ?_); (· exact aBnd); (· exact aBnd)) | ((with_reducible refine Go.ariu8 ?_ ?_ ?_); (· exact aBnd); (· exact aBnd)) | (with_reducible refine Go.ari0 ?_) | (apply Go.elem; (· (first | exact int_get | exact aElem))) | (apply Go.row; (· exact aRow)) | (apply Go.map; (· exact aRow)) | (apply Go.gives; (· exact aGives)) | (apply Go.gives; (· exact aRes)) | (refine Go.gt rfl ?_) | (refine Go.gf rfl ?_) | (with_reducible refine Go.join ?_) | (refine Go.lt' rfl ?_) | (refine Go.lf' rfl ?_) | ((with_reducible refine Go.bool ?_ ?_) <;> intro hc <;> (try simp only [List.length_map, ne_eq, hcs] at hc) <;> try (exfalso; omega)) | ((with_reducible refine Res.eq ?_ ?_); (· exact aFit)))
  refine Go.loop (fun i : Nat => [(0, imI l), (1, i64 k), (7, i64 l.length), (8, i64 i)]) (fun i _ _ => i ≤ l.length ∧ posI l k 0 = posI (l.drop i) k i) (fun i => l.length - i) 0 aLess ⟨Nat.zero_le _, by simp⟩ ?_
  rintro i H nx ⟨hi, he⟩
  repeat' (first | ((with_reducible refine Go.red ?_); conv => whnf) | with_reducible (first | refine Go.and ?_ ?_ | exact True.intro | refine Go.far ?_ | exact Go.askRep | refine Go.unroll ?_ | refine Go.drawn ?_) | ((with_reducible refine Apt.mk ?_); (try dsimp only); omega) | ((with_reducible refine Ask.mk ?_); first | exact aAsk | exact aAsk2) | ((with_reducible refine Go.ari64 ?_ ?_ ?_); (· exact aBnd); (· exact aBnd)) | ((with_reducible refine Go.ariu8 ?_ ?_ ?_); (· exact aBnd); (· exact aBnd)) | (with_reducible refine Go.ari0 ?_) | (apply Go.elem; (· (first | exact int_get | exact aElem))) | (apply Go.row; (· exact aRow)) | (apply Go.map; (· exact aRow)) | (apply Go.gives; (· exact aGives)) | (apply Go.gives; (· exact aRes)) | (refine Go.gt rfl ?_) | (refine Go.gf rfl ?_) | (with_reducible refine Go.join ?_) | (refine Go.lt' rfl ?_) | (refine Go.lf' rfl ?_) | ((with_reducible refine Go.bool ?_ ?_) <;> intro hc <;> (try simp only [List.length_map, ne_eq, hcs] at hc) <;> try (exfalso; omega)) | ((with_reducible refine Res.eq ?_ ?_); (· exact aFit)))
  · rw [he, posI_drop (by omega), if_pos (by simpa using hc)]
  · refine ⟨i + 1, by omega, aLess, by omega, ?_⟩
    rw [he, posI_drop (by omega), if_neg (by simpa using hc)]
  · have : i = l.length := by omega
    subst this
    rw [he]; simp [posI]
def place (x : Exec) (k : Nat) : Int := posI (x.after.getD (x.ev k).thing.toNat []) k 0
theorem af_len {x : Exec} (hx : x.Wf) (t : Nat) : (x.after.getD t []).length * 8 ≤ 140737488351232 := by
  by_cases ht : t < x.after.length
  · exact (hx.after _ (getD_mem' [] ht)).2
  · simp [List.getD, List.getElem?_eq_none (by omega : x.after.length ≤ t)]
theorem place_pure (x : Exec) (hx : x.Wf) (k : Nat) (hk : k < x.events.length) (h0 : 0 ≤ (x.ev k).thing) (h1 : (x.ev k).thing < x.after.length) : Pure Try.prog 56 [x.av, i64 k] (fun r => r = i64 (place x k)) := by
  refine Go.pure Try.func56 nm56 low56 res56 nt56 rfl ?_
  repeat' (first | ((with_reducible refine Go.red ?_); conv => whnf) | with_reducible (first | refine Go.and ?_ ?_ | exact True.intro | refine Go.far ?_ | exact Go.askRep | refine Go.unroll ?_ | refine Go.drawn ?_) | ((with_reducible refine Apt.mk ?_); (try dsimp only); omega) | ((with_reducible refine Ask.mk ?_); first | exact aAsk | (simp only [Int.toNat_natCast, List.length_map]; omega) | exact aAsk2 | (intro h; simp_all [Exec.cells, Deed.cells] <;> fail) | (simp_all [Exec.cells, Deed.cells] <;> fail)) | ((with_reducible refine Go.ari64 ?_ ?_ ?_); (· exact aBnd); (· exact aBnd)) | ((with_reducible refine Go.ariu8 ?_ ?_ ?_); (· exact aBnd); (· exact aBnd)) | (with_reducible refine Go.ari0 ?_) | (apply Go.elem; (· (first | exact ev_get | exact int_get | exact lst_get | exact aElem))) | (apply Go.row; (· exact aRow)) | (apply Go.map; (· exact aRow)) | (apply Go.gives; (· exact aGives)) | (apply Go.gives; (· exact aRes)) | ((with_reducible refine Go.callW (index_pure _ _ (af_len hx _)) ?_ ?_); (· exact aFit)) | ((with_reducible refine Go.callJ (fun _ => index_pure _ _ (af_len hx _)) ?_ ?_); (· exact aFit)) | ((with_reducible refine Go.callE (index_pure _ _ (af_len hx _)) ?_ ?_); (· exact aFit)) | ((with_reducible refine Go.callF (fun _ => index_pure _ _ (af_len hx _)) ?_ ?_); (· exact aFit)) | (refine Go.gt rfl ?_) | (refine Go.gf rfl ?_) | (with_reducible refine Go.join ?_) | (refine Go.lt' rfl ?_) | (refine Go.lf' rfl ?_) | ((with_reducible refine Go.bool ?_ ?_) <;> intro hc <;> (try simp only [List.length_map, ne_eq, hcs] at hc) <;> try (exfalso; omega)) | ((with_reducible refine Res.eq ?_ ?_); (· exact aFit)))
  simp [place]
structure Fine (x : Exec) : Prop where
  wf : x.Wf
  few : x.events.length ≤ 64
  frl : x.frm.length = x.events.length
  afl : x.after.length = x.first.length
  ev : ∀ i, i < x.events.length → evOk x.first.length (x.ev i) = true
  fr : ∀ i, i < x.events.length → frOk x i = true
  af : aftOk x
theorem Fine.thing {x : Exec} (h : Fine x) {i : Nat} (hi : i < x.events.length) (hk : (x.ev i).kind ≠ 4) : 0 ≤ (x.ev i).thing ∧ (x.ev i).thing < x.after.length := by
  have := h.ev i hi
  simp only [evOk, Bool.and_eq_true, decide_eq_true_eq, hk, if_false] at this
  rw [h.afl]
  exact this.2
theorem Fine.thingR {x : Exec} (h : Fine x) {i : Nat} (hi : i < x.events.length) (hk : (x.ev i).rd = true) : 0 ≤ (x.ev i).thing ∧ (x.ev i).thing < x.after.length := h.thing hi (by have := rd_kind.1 hk; omega)
theorem Fine.thingW {x : Exec} (h : Fine x) {i : Nat} (hi : i < x.events.length) (hk : (x.ev i).wr = true) : 0 ≤ (x.ev i).thing ∧ (x.ev i).thing < x.after.length := h.thing hi (by have := wr_kind.1 hk; omega)
theorem Fine.from {x : Exec} (h : Fine x) {i : Nat} (hi : i < x.events.length) (hk : (x.ev i).rd = true) (h0 : ¬ x.fr i < 0) : 0 ≤ x.fr i ∧ x.fr i < x.events.length ∧ x.fr i ≠ i ∧ (x.ev (x.fr i).toNat).wr = true ∧ (x.ev (x.fr i).toNat).thing = (x.ev i).thing ∧ (x.ev (x.fr i).toNat).put = (x.ev i).saw := by
  have := h.fr i hi
  simp only [frOk, hk, if_true] at this
  rw [if_neg (by omega)] at this
  simp only [Bool.and_eq_true, decide_eq_true_eq] at this
  obtain ⟨⟨⟨⟨⟨h1, h2⟩, h3⟩, h4⟩, h5⟩, h6⟩ := this
  exact ⟨h1, h2, h3, h4, h5, h6⟩
def isB (x : Exec) (kind : Int) (a b : Nat) : Bool :=
  if kind = 0 then decide ((x.ev a).thread = (x.ev b).thread) && decide (a < b)
  else if kind = 1 then (x.ev b).rd && decide (x.fr b = a)
  else if kind = 2 then (x.ev a).wr && (x.ev b).wr && decide ((x.ev a).thing = (x.ev b).thing) && decide (place x a < place x b)
  else (x.ev a).rd && (x.ev b).wr && decide ((x.ev a).thing = (x.ev b).thing) && decide (a ≠ b) && (decide (x.fr a < 0) || decide (place x (x.fr a).toNat < place x b))
theorem place_pureI (x : Exec) (hx : x.Wf) (k : Int) (h : 0 ≤ k) (hk : k < x.events.length) (h0 : 0 ≤ (x.ev k.toNat).thing) (h1 : (x.ev k.toNat).thing < x.after.length) : Pure Try.prog 56 [x.av, i64 k] (fun r => r = i64 (place x k.toNat)) := by
  have e : k = (k.toNat : Int) := by omega
  have := place_pure x hx k.toNat (by omega) h0 h1
  rw [← e] at this
  exact this
set_option maxHeartbeats 4000000 in
theorem is_pure (x : Exec) (h : Fine x) (kind : Int) (hk : 0 ≤ kind ∧ kind < 4) (a b : Nat) (ha : a < x.events.length) (hb : b < x.events.length) : Pure Try.prog 50 [x.av, u8 kind, i64 a, i64 b] (fun r => r = bl (isB x kind a b)) := by
  refine Go.pure Try.func50 nm50 low50 res50 nt50 rfl ?_
  have hx := h.wf
  have hfl := h.frl
  have p2 : ∀ k : Nat, (k = a ∨ k = b) → (if (if (x.ev a).wr = true then (x.ev b).wr else false) = true then decide ((x.ev a).thing = (x.ev b).thing) else false) = true → Pure Try.prog 56 [x.av, i64 k] (fun r => r = i64 (place x k)) := by
    intro k hk hg
    have hg : ((x.ev a).wr = true ∧ (x.ev b).wr = true) ∧ (x.ev a).thing = (x.ev b).thing := by
      revert hg
      cases (x.ev a).wr <;> cases (x.ev b).wr <;> simp
    rcases hk with rfl | rfl
    · exact place_pure x hx _ ha (h.thingW ha hg.1.1).1 (h.thingW ha hg.1.1).2
    · exact place_pure x hx _ hb (h.thingW hb hg.1.2).1 (h.thingW hb hg.1.2).2
  repeat' (first | ((with_reducible refine Go.red ?_); conv => whnf) | with_reducible (first | refine Go.and ?_ ?_ | exact True.intro | refine Go.far ?_ | exact Go.askRep | refine Go.unroll ?_ | refine Go.drawn ?_) | ((with_reducible refine Apt.mk ?_); (try dsimp only); omega) | ((with_reducible refine Ask.mk ?_); first | exact aAsk | exact aAsk2 | (intro h; simp_all [Exec.cells, Deed.cells] <;> fail) | (simp_all [Exec.cells, Deed.cells] <;> fail)) | ((with_reducible refine Go.ari64 ?_ ?_ ?_); (· exact aBnd); (· exact aBnd)) | ((with_reducible refine Go.ariu8 ?_ ?_ ?_); (· exact aBnd); (· exact aBnd)) | (with_reducible refine Go.ari0 ?_) | (apply Go.elem; (· (first | exact ev_get | exact int_get | exact lst_get | exact aElem))) | (apply Go.row; (· exact aRow)) | (apply Go.map; (· exact aRow)) | (apply Go.gives; (· exact aGives)) | (apply Go.gives; (· exact aRes)) | ((with_reducible refine Go.callW (reads_pure _) ?_ ?_); (· exact aFit)) | ((with_reducible refine Go.callJ (fun _ => reads_pure _) ?_ ?_); (· exact aFit)) | ((with_reducible refine Go.callE (reads_pure _) ?_ ?_); (· exact aFit)) | ((with_reducible refine Go.callF (fun _ => reads_pure _) ?_ ?_); (· exact aFit)) | ((with_reducible refine Go.callW (writes_pure _) ?_ ?_); (· exact aFit)) | ((with_reducible refine Go.callJ (fun _ => writes_pure _) ?_ ?_); (· exact aFit)) | ((with_reducible refine Go.callE (writes_pure _) ?_ ?_); (· exact aFit)) | ((with_reducible refine Go.callF (fun _ => writes_pure _) ?_ ?_); (· exact aFit)) | ((refine Go.callF (fun hg => p2 a (.inl rfl) hg) ?_ ?_); (· exact aFit)) | ((refine Go.callF (fun hg => p2 b (.inr rfl) hg) ?_ ?_); (· exact aFit)) | ((refine Go.callJ (fun hg => p2 a (.inl rfl) hg) ?_ ?_); (· exact aFit)) | ((refine Go.callJ (fun hg => p2 b (.inr rfl) hg) ?_ ?_); (· exact aFit)) | (refine Go.gt rfl ?_) | (refine Go.gf rfl ?_) | (with_reducible refine Go.join ?_) | (refine Go.lt' rfl ?_) | (refine Go.lf' rfl ?_) | ((with_reducible refine Go.bool ?_ ?_) <;> intro hc <;> (try simp only [List.length_map, ne_eq, hcs] at hc) <;> try (exfalso; omega)) | ((with_reducible refine Res.eq ?_ ?_); (· exact aFit)))
  all_goals try (
    refine bl_eq ?_
    rw [Bool.eq_iff_iff]
    simp only [isB, ev_fold, fr_fold, Int.toNat_natCast, Bool.and_eq_true, Bool.or_eq_true, decide_eq_true_eq, Bool.ite_eq_true_distrib, Bool.false_eq_true] at hc ⊢
    grind)
  have hrd : (x.ev a).rd = true := by cases hh : (x.ev a).rd <;> simp_all
  have hwr : (x.ev b).wr = true := by cases hh : (x.ev b).wr <;> simp_all
  have hth : (x.ev a).thing = (x.ev b).thing := by
    rcases Decidable.em ((x.ev a).thing = (x.ev b).thing) with h | h
    · exact h
    · exact absurd (.inr h) hc.1
  have hB := place_pure x hx b hb (h.thingW hb hwr).1 (h.thingW hb hwr).2
  have hA : (!decide (x.fr a < 0)) = true → Pure Try.prog 56 [x.av, i64 (x.fr a)] (fun r => r = i64 (place x (x.fr a).toNat)) := by
    intro hg
    simp only [Bool.not_eq_true', decide_eq_false_iff_not] at hg
    obtain ⟨h1, h2, _, h3, h4, _⟩ := h.from ha hrd hg
    have h5 := h.thingW (i := (x.fr a).toNat) (by omega) h3
    exact place_pureI x hx _ h1 h2 h5.1 h5.2
  repeat' (first | ((with_reducible refine Go.red ?_); conv => whnf) | with_reducible (first | refine Go.and ?_ ?_ | exact True.intro | refine Go.far ?_ | exact Go.askRep | refine Go.unroll ?_ | refine Go.drawn ?_) | ((with_reducible refine Apt.mk ?_); (try dsimp only); omega) | ((with_reducible refine Ask.mk ?_); first | exact aAsk | exact aAsk2 | (intro h; simp_all [Exec.cells, Deed.cells] <;> fail) | (simp_all [Exec.cells, Deed.cells] <;> fail)) | ((with_reducible refine Go.ari64 ?_ ?_ ?_); (· exact aBnd); (· exact aBnd)) | ((with_reducible refine Go.ariu8 ?_ ?_ ?_); (· exact aBnd); (· exact aBnd)) | (with_reducible refine Go.ari0 ?_) | (apply Go.elem; (· (first | exact ev_get | exact int_get | exact lst_get | exact aElem))) | (apply Go.row; (· exact aRow)) | (apply Go.map; (· exact aRow)) | (apply Go.gives; (· exact aGives)) | (apply Go.gives; (· exact aRes)) | ((with_reducible refine Go.callW (reads_pure _) ?_ ?_); (· exact aFit)) | ((with_reducible refine Go.callJ (fun _ => reads_pure _) ?_ ?_); (· exact aFit)) | ((with_reducible refine Go.callE (reads_pure _) ?_ ?_); (· exact aFit)) | ((with_reducible refine Go.callF (fun _ => reads_pure _) ?_ ?_); (· exact aFit)) | ((with_reducible refine Go.callW (writes_pure _) ?_ ?_); (· exact aFit)) | ((with_reducible refine Go.callJ (fun _ => writes_pure _) ?_ ?_); (· exact aFit)) | ((with_reducible refine Go.callE (writes_pure _) ?_ ?_); (· exact aFit)) | ((with_reducible refine Go.callF (fun _ => writes_pure _) ?_ ?_); (· exact aFit)) | ((refine Go.callF (fun _ => hB) ?_ ?_); (· exact aFit)) | ((refine Go.callF (fun hg => hA hg) ?_ ?_); (· exact aFit)) | ((refine Go.callJ (fun _ => hB) ?_ ?_); (· exact aFit)) | ((refine Go.callJ (fun hg => hA hg) ?_ ?_); (· exact aFit)) | (refine Go.gt rfl ?_) | (refine Go.gf rfl ?_) | (with_reducible refine Go.join ?_) | (refine Go.lt' rfl ?_) | (refine Go.lf' rfl ?_) | ((with_reducible refine Go.bool ?_ ?_) <;> intro hc <;> (try simp only [List.length_map, ne_eq, hcs] at hc) <;> try (exfalso; omega)) | ((with_reducible refine Res.eq ?_ ?_); (· exact aFit)))
  refine bl_eq ?_
  rw [Bool.eq_iff_iff]
  simp only [isB, ev_fold, fr_fold, Int.toNat_natCast, Bool.and_eq_true, Bool.or_eq_true, decide_eq_true_eq, Bool.ite_eq_true_distrib, Bool.false_eq_true] at hc ⊢
  grind
end Go.Proofs.Ytncllkpekbapjaa
