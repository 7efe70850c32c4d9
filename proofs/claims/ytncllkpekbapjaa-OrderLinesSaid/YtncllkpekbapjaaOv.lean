/- The document's arrows, and its line. -/
import Derived.Test.YtncllkpekbapjaaOu
namespace Go.Proofs.Ytncllkpekbapjaa
open Go Go.Abs Go.Proofs
set_option linter.unusedSimpArgs false
set_option linter.unusedVariables false
def kindF (x : Exec) (k : Int) : Int → Nat → Nat → Bool := if k = 1 then cohF x else if k = 2 then fun _ _ _ => true else tsoF x
theorem spot_pureI (x : Exec) (hx : x.Wf) (k : Int) (h : 0 ≤ k) (hk : k < x.events.length) (h0 : 0 ≤ (x.ev k.toNat).thing) (h1 : (x.ev k.toNat).thing < x.after.length) : Pure Try.prog 55 [x.av, i64 k] (fun r => r = i64 (place x k.toNat)) := by
  have e : k = (k.toNat : Int) := by omega
  have := spot_pure x hx k.toNat (by omega) h0 h1
  rw [← e] at this
  exact this
theorem spotW {x : Exec} (h : Fine x) {b : Nat} (hb : b < x.events.length) (hw : (x.ev b).wr = true) : Pure Try.prog 55 [x.av, i64 b] (fun r => r = i64 (place x b)) := spot_pure x h.wf b hb (h.thingW hb hw).1 (h.thingW hb hw).2
theorem spotR {x : Exec} (h : Fine x) {a : Nat} (ha : a < x.events.length) (hr : (x.ev a).rd = true) (h1 : x.fr a ≠ -1) : Pure Try.prog 55 [x.av, i64 (x.fr a)] (fun r => r = i64 (place x (x.fr a).toNat)) := by
  have hf := h.fr a ha
  have h0 : ¬ x.fr a < 0 := by
    intro hlt
    simp only [frOk, hr, if_true, h1, if_false, Bool.and_eq_true, decide_eq_true_eq] at hf
    omega
  obtain ⟨g1, g2, _, g3, g4, _⟩ := h.from ha hr h0
  have g5 := h.thingW (i := (x.fr a).toNat) (by omega) g3
  exact spot_pureI x h.wf _ g1 g2 g5.1 g5.2
def refArr (x : Exec) (a b : Nat) (k : Int) : Bool :=
  let p := x.ev a
  let q := x.ev b
  let one := decide (p.kind ≠ 4) && decide (q.kind ≠ 4) && decide (p.thing = q.thing)
  decide (a ≠ b) && ((decide (p.thread = q.thread) && decide (a < b) && (if k = 1 then one else if k = 2 then true else decide (p.kind ≠ 2) || decide (q.kind ≠ 1))) || (q.rd && decide (x.fr b = a) && (decide (k ≠ 3) || decide (p.thread ≠ q.thread)))
   || (one && q.wr && ((p.wr && decide (place x a < place x b)) || (p.rd && (decide (x.fr a = -1) || decide (place x (x.fr a).toNat < place x b))))))
set_option maxHeartbeats 4000000 in
theorem arrow_pure (x : Exec) (h : Fine x) (k : Int) (hk : k = 1 ∨ k = 2 ∨ k = 3) (a b : Nat) (ha : a < x.events.length) (hb : b < x.events.length) : Pure Try.prog 49 [x.av, i64 a, i64 b, i64 k] (fun r => r = bl (refArr x a b k)) := by
  refine Go.pure Try.func49 nm49 low49 res49 nt49 rfl ?_
  have hx := h.wf
  have hfl := h.frl
  repeat' (first | ((with_reducible refine Go.red ?_); conv => whnf) | with_reducible (first | refine Go.and ?_ ?_ | exact True.intro | refine Go.far ?_ | exact Go.askRep | refine Go.unroll ?_ | refine Go.drawn ?_) | ((with_reducible refine Apt.mk ?_); (try dsimp only); omega) | ((with_reducible refine Ask.mk ?_); first | exact aAsk | exact aAsk2 | (intro h; simp_all [Exec.cells, Deed.cells] <;> fail) | (simp_all [Exec.cells, Deed.cells] <;> fail)) | ((with_reducible refine Go.ari64 ?_ ?_ ?_); (· exact aBnd); (· exact aBnd)) | ((with_reducible refine Go.ariu8 ?_ ?_ ?_); (· exact aBnd); (· exact aBnd)) | (with_reducible refine Go.ari0 ?_) | (apply Go.elem; (· (first | exact ev_get | exact int_get | exact lst_get | exact aElem))) | (apply Go.row; (· exact aRow)) | (apply Go.map; (· exact aRow)) | (apply Go.gives; (· exact aGives)) | (apply Go.gives; (· exact aRes)) | ((with_reducible refine Go.callW (reader_pure _) ?_ ?_); (· exact aFit)) | ((with_reducible refine Go.callJ (fun _ => reader_pure _) ?_ ?_); (· exact aFit)) | ((with_reducible refine Go.callE (reader_pure _) ?_ ?_); (· exact aFit)) | ((with_reducible refine Go.callF (fun _ => reader_pure _) ?_ ?_); (· exact aFit)) | ((with_reducible refine Go.callW (writer_pure _) ?_ ?_); (· exact aFit)) | ((with_reducible refine Go.callJ (fun _ => writer_pure _) ?_ ?_); (· exact aFit)) | ((with_reducible refine Go.callE (writer_pure _) ?_ ?_); (· exact aFit)) | ((with_reducible refine Go.callF (fun _ => writer_pure _) ?_ ?_); (· exact aFit)) | ((refine Go.callW (spotW h hb hc.2) ?_ ?_); (· exact aFit)) | ((refine Go.callF (fun hg => spotW h ha hg) ?_ ?_); (· exact aFit)) | ((refine Go.callJ (fun hg => spotW h ha hg) ?_ ?_); (· exact aFit)) | ((refine Go.callJ (fun hg => spotR h ha hc (by simpa using hg)) ?_ ?_); (· exact aFit)) | ((refine Go.callF (fun hg => spotR h ha hc (by simpa using hg)) ?_ ?_); (· exact aFit)) | (refine Go.gt rfl ?_) | (refine Go.gf rfl ?_) | (with_reducible refine Go.join ?_) | (refine Go.lt' rfl ?_) | (refine Go.lf' rfl ?_) | ((with_reducible refine Go.bool ?_ ?_) <;> intro hc <;> (try simp only [List.length_map, ne_eq, hcs] at hc) <;> try (exfalso; omega)) | ((with_reducible refine Res.eq ?_ ?_); (· exact aFit)))
  all_goals (
    refine bl_eq ?_
    rw [Bool.eq_iff_iff]
    simp only [refArr, ev_fold, fr_fold, Int.toNat_natCast, Bool.and_eq_true, Bool.or_eq_true, decide_eq_true_eq, Bool.ite_eq_true_distrib, Bool.false_eq_true] at *
    try grind)
theorem arr4 {x : Exec} {cf : Int → Nat → Nat → Bool} {a b : Nat} : arrM x cf a b = true ↔ (a < x.events.length ∧ b < x.events.length) ∧ a ≠ b ∧ ((isB x 0 a b = true ∧ cf 0 a b = true) ∨ (isB x 1 a b = true ∧ cf 1 a b = true) ∨ (isB x 2 a b = true ∧ cf 2 a b = true) ∨ (isB x 3 a b = true ∧ cf 3 a b = true)) := by
  rw [arr_iff]
  refine and_congr_right fun _ => and_congr_right fun _ => ⟨fun ⟨k, hk, h⟩ => ?_, fun h => ?_⟩
  · obtain rfl | rfl | rfl | rfl : k = 0 ∨ k = 1 ∨ k = 2 ∨ k = 3 := by omega
    · exact .inl h
    · exact .inr (.inl h)
    · exact .inr (.inr (.inl h))
    · exact .inr (.inr (.inr h))
  · rcases h with h | h | h | h
    · exact ⟨0, by omega, h⟩
    · exact ⟨1, by omega, h⟩
    · exact ⟨2, by omega, h⟩
    · exact ⟨3, by omega, h⟩
theorem kind1 (x : Exec) : kindF x 1 = cohF x := rfl
theorem kind2 (x : Exec) : kindF x 2 = fun _ _ _ => true := rfl
theorem kind3 (x : Exec) : kindF x 3 = tsoF x := rfl
theorem cohN {x : Exec} {k : Int} {a b : Nat} (h : k ≠ 0) : cohF x k a b = true := by simp [cohF, h]
theorem tsoN {x : Exec} {k : Int} {a b : Nat} (h : k ≠ 0) (h1 : k ≠ 1) : tsoF x k a b = true := by simp [tsoF, h, h1]
theorem ref_arr {x : Exec} (h : Fine x) {k : Int} (hk : k = 1 ∨ k = 2 ∨ k = 3) {a b : Nat} (ha : a < x.events.length) (hb : b < x.events.length) : refArr x a b k = arrM x (kindF x k) a b := by
  have hW : ∀ j, (x.ev j).wr = true → (x.ev j).kind ≠ 4 := fun j => kind_wr
  have hR : ∀ j, (x.ev j).rd = true → (x.ev j).kind ≠ 4 := fun j => kind_rd
  have hF : (x.ev a).rd = true → x.fr a < 0 → x.fr a = -1 := by
    intro hr hlt
    have hf := h.fr a ha
    simp only [frOk, hr, if_true] at hf
    by_cases h1 : x.fr a = -1
    · exact h1
    · rw [if_neg h1] at hf
      simp only [Bool.and_eq_true, decide_eq_true_eq] at hf
      omega
  have w1 : (x.ev a).wr = true → ¬ (x.ev a).kind = 4 := hW a
  have w2 : (x.ev b).wr = true → ¬ (x.ev b).kind = 4 := hW b
  have r1 : (x.ev a).rd = true → ¬ (x.ev a).kind = 4 := hR a
  have r2 : (x.ev b).rd = true → ¬ (x.ev b).kind = 4 := hR b
  rw [Bool.eq_iff_iff, arr4, isB0, isB1, isB2, isB3]
  clear hW hR
  have hG : x.fr a = -1 → x.fr a < 0 := by omega
  rcases hk with rfl | rfl | rfl
  · simp only [kind1, coh0, cohN (show (1 : Int) ≠ 0 by decide), cohN (show (2 : Int) ≠ 0 by decide), cohN (show (3 : Int) ≠ 0 by decide), refArr, Bool.and_eq_true, Bool.or_eq_true, decide_eq_true_eq, Bool.ite_eq_true_distrib, Bool.false_eq_true, if_true, ne_eq]
    clear h
    generalize (x.ev a).rd = pr at *
    generalize (x.ev b).rd = qr at *
    generalize (x.ev a).wr = pw at *
    generalize (x.ev b).wr = qw at *
    generalize ((x.ev a).thing = (x.ev b).thing) = TG at *
    generalize ((x.ev a).thread = (x.ev b).thread) = TH at *
    generalize ((x.ev a).kind = 4) = KA at *
    generalize ((x.ev b).kind = 4) = KB at *
    generalize (place x a < place x b) = PL at *
    generalize (place x (x.fr a).toNat < place x b) = PF at *
    generalize (x.fr a = -1) = FM at *
    generalize (x.fr a < 0) = FN at *
    generalize (x.fr b = (a : Int)) = FB at *
    generalize ((x.ev a).kind = 2) = K2 at *
    generalize ((x.ev b).kind = 1) = K1 at *
    generalize (a < b) = LT at *
    generalize (a = b) = EQ at *
    simp only [ha, hb, true_and, and_true, and_self]
    clear ha hb
    cases pr <;> cases qr <;> cases pw <;> cases qw <;> simp only [Bool.false_eq_true, false_and, and_false, or_false, false_or, true_and, and_true, forall_const, false_imp_iff] at * <;> grind (splits := 30)
  · simp only [kind2, refArr, Bool.and_eq_true, Bool.or_eq_true, decide_eq_true_eq, Bool.ite_eq_true_distrib, Bool.false_eq_true, if_true, ne_eq]
    clear h
    generalize (x.ev a).rd = pr at *
    generalize (x.ev b).rd = qr at *
    generalize (x.ev a).wr = pw at *
    generalize (x.ev b).wr = qw at *
    generalize ((x.ev a).thing = (x.ev b).thing) = TG at *
    generalize ((x.ev a).thread = (x.ev b).thread) = TH at *
    generalize ((x.ev a).kind = 4) = KA at *
    generalize ((x.ev b).kind = 4) = KB at *
    generalize (place x a < place x b) = PL at *
    generalize (place x (x.fr a).toNat < place x b) = PF at *
    generalize (x.fr a = -1) = FM at *
    generalize (x.fr a < 0) = FN at *
    generalize (x.fr b = (a : Int)) = FB at *
    generalize ((x.ev a).kind = 2) = K2 at *
    generalize ((x.ev b).kind = 1) = K1 at *
    generalize (a < b) = LT at *
    generalize (a = b) = EQ at *
    simp only [ha, hb, true_and, and_true, and_self]
    clear ha hb
    cases pr <;> cases qr <;> cases pw <;> cases qw <;> simp only [Bool.false_eq_true, false_and, and_false, or_false, false_or, true_and, and_true, forall_const, false_imp_iff] at * <;> grind (splits := 30)
  · simp only [kind3, tso0, tso1, tsoN (show (2 : Int) ≠ 0 by decide) (show (2 : Int) ≠ 1 by decide), tsoN (show (3 : Int) ≠ 0 by decide) (show (3 : Int) ≠ 1 by decide), refArr, Bool.and_eq_true, Bool.or_eq_true, decide_eq_true_eq, Bool.ite_eq_true_distrib, Bool.false_eq_true, if_true, ne_eq]
    clear h
    generalize (x.ev a).rd = pr at *
    generalize (x.ev b).rd = qr at *
    generalize (x.ev a).wr = pw at *
    generalize (x.ev b).wr = qw at *
    generalize ((x.ev a).thing = (x.ev b).thing) = TG at *
    generalize ((x.ev a).thread = (x.ev b).thread) = TH at *
    generalize ((x.ev a).kind = 4) = KA at *
    generalize ((x.ev b).kind = 4) = KB at *
    generalize (place x a < place x b) = PL at *
    generalize (place x (x.fr a).toNat < place x b) = PF at *
    generalize (x.fr a = -1) = FM at *
    generalize (x.fr a < 0) = FN at *
    generalize (x.fr b = (a : Int)) = FB at *
    generalize ((x.ev a).kind = 2) = K2 at *
    generalize ((x.ev b).kind = 1) = K1 at *
    generalize (a < b) = LT at *
    generalize (a = b) = EQ at *
    simp only [ha, hb, true_and, and_true, and_self]
    clear ha hb
    cases pr <;> cases qr <;> cases pw <;> cases qw <;> simp only [Bool.false_eq_true, false_and, and_false, or_false, false_or, true_and, and_true, forall_const, false_imp_iff] at * <;> grind (splits := 30)
end Go.Proofs.Ytncllkpekbapjaa
