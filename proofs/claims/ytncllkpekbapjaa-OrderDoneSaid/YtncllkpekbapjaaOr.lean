/- Fences between: tso is plain. One thread: coherent is plain. -/
import Derived.Test.YtncllkpekbapjaaOn
namespace Go.Proofs.Ytncllkpekbapjaa
open Go Go.Abs Go.Proofs
set_option linter.unusedSimpArgs false
set_option linter.unusedVariables false
inductive Way (M : Mat) : Nat → Nat → Prop where
  | one {a b : Nat} (h : M a b = true) : Way M a b
  | more {a b c : Nat} (h : M a b = true) (w : Way M b c) : Way M a c
theorem Way.trans {M : Mat} {a b c : Nat} (h : Way M a b) (h2 : Way M b c) : Way M a c := by
  induction h with
  | one h => exact .more h h2
  | more h _ ih => exact .more h (ih h2)
theorem Way.lt {M : Mat} (hM : ∀ a b, M a b = true → a < b) {a b : Nat} (h : Way M a b) : a < b := by
  induction h with
  | one h => exact hM _ _ h
  | more h _ ih => exact Nat.lt_trans (hM _ _ h) ih
theorem warsh_way {M : Mat} : ∀ (n a b : Nat), warsh n M a b = true → Way M a b
  | 0, a, b, h => .one h
  | n + 1, a, b, h => by
    simp only [warsh, step1, Bool.or_eq_true, Bool.and_eq_true] at h
    rcases h with h | ⟨h1, h2⟩
    · exact warsh_way n a b h
    · exact (warsh_way n a n h1).trans (warsh_way n n b h2)
theorem warsh_up {M : Mat} {a b : Nat} (h : M a b = true) : ∀ n, warsh n M a b = true
  | 0 => h
  | n + 1 => by simp only [warsh, step1, warsh_up h n, Bool.true_or]
theorem warsh_trans {M : Mat} : ∀ (n a b c : Nat), c < n → warsh n M a c = true → warsh n M c b = true → warsh n M a b = true
  | 0, _, _, _, h, _, _ => by omega
  | n + 1, a, b, c, h, h1, h2 => by
    by_cases hc : c = n
    · subst hc
      rw [warsh_col] at h1
      rw [warsh_row] at h2
      simp only [warsh, step1, h1, h2, Bool.and_self, Bool.or_true]
    · have ih := warsh_trans (M := M) n
      simp only [warsh, step1, Bool.or_eq_true, Bool.and_eq_true] at h1 h2 ⊢
      rcases h1 with h1 | ⟨h1, h3⟩
      · rcases h2 with h2 | ⟨h2, h4⟩
        · exact .inl (ih _ _ c (by omega) h1 h2)
        · exact .inr ⟨ih _ _ c (by omega) h1 h2, h4⟩
      · rcases h2 with h2 | ⟨h2, h4⟩
        · exact .inr ⟨h1, ih _ _ c (by omega) h3 h2⟩
        · exact .inr ⟨h1, h4⟩
theorem way_warsh {M : Mat} {n : Nat} (hM : ∀ a b, M a b = true → a < n ∧ b < n) {a b : Nat} (h : Way M a b) : warsh n M a b = true := by
  induction h with
  | one h => exact warsh_up h n
  | more h _ ih => exact warsh_trans n _ _ _ (hM _ _ h).2 (warsh_up h n) ih
theorem Way.fst {M : Mat} {n : Nat} (hM : ∀ a b, M a b = true → a < n ∧ b < n) {a b : Nat} (h : Way M a b) : a < n := by
  cases h with
  | one h => exact (hM _ _ h).1
  | more h _ => exact (hM _ _ h).1
theorem ring_iff {M : Mat} {n : Nat} (hM : ∀ a b, M a b = true → a < n ∧ b < n) : ringB n M = true ↔ ∃ k, Way M k k := by
  simp only [ringB, List.any_eq_true, List.mem_range]
  exact ⟨fun ⟨k, _, h⟩ => ⟨k, warsh_way n k k h⟩, fun ⟨k, h⟩ => ⟨k, h.fst hM, way_warsh hM h⟩⟩
theorem ring_no {M : Mat} {n : Nat} (hM : ∀ a b, M a b = true → a < n ∧ b < n) : ringB n M = false ↔ ∀ k, ¬ Way M k k := by
  rw [Bool.eq_false_iff, ne_eq, ring_iff hM]
  exact ⟨fun h k w => h ⟨k, w⟩, fun h ⟨k, w⟩ => h k w⟩
theorem arr_lt {x : Exec} {cf : Int → Nat → Nat → Bool} (a b : Nat) (h : arrM x cf a b = true) : a < x.events.length ∧ b < x.events.length := by
  simp only [arrM, Bool.and_eq_true, decide_eq_true_eq] at h
  exact h.1
theorem arr_iff {x : Exec} {cf : Int → Nat → Nat → Bool} {a b : Nat} : arrM x cf a b = true ↔ (a < x.events.length ∧ b < x.events.length) ∧ a ≠ b ∧ ∃ k : Nat, k < 4 ∧ isB x k a b = true ∧ cf k a b = true := by
  simp only [arrM, arrK, Bool.and_eq_true, decide_eq_true_eq, List.any_eq_true, List.mem_range]
theorem isB0 {x : Exec} {a b : Nat} : isB x 0 a b = true ↔ (x.ev a).thread = (x.ev b).thread ∧ a < b := by
  have e : isB x 0 a b = (decide ((x.ev a).thread = (x.ev b).thread) && decide (a < b)) := rfl
  rw [e]; simp only [Bool.and_eq_true, decide_eq_true_eq]
theorem isB1 {x : Exec} {a b : Nat} : isB x 1 a b = true ↔ (x.ev b).rd = true ∧ x.fr b = a := by
  have e : isB x 1 a b = ((x.ev b).rd && decide (x.fr b = a)) := rfl
  rw [e]; simp only [Bool.and_eq_true, decide_eq_true_eq]
theorem isB2 {x : Exec} {a b : Nat} : isB x 2 a b = true ↔ (((x.ev a).wr = true ∧ (x.ev b).wr = true) ∧ (x.ev a).thing = (x.ev b).thing) ∧ place x a < place x b := by
  have e : isB x 2 a b = ((x.ev a).wr && (x.ev b).wr && decide ((x.ev a).thing = (x.ev b).thing) && decide (place x a < place x b)) := rfl
  rw [e]; simp only [Bool.and_eq_true, decide_eq_true_eq]
theorem isB3 {x : Exec} {a b : Nat} : isB x 3 a b = true ↔ ((((x.ev a).rd = true ∧ (x.ev b).wr = true) ∧ (x.ev a).thing = (x.ev b).thing) ∧ a ≠ b) ∧ (x.fr a < 0 ∨ place x (x.fr a).toNat < place x b) := by
  have e : isB x 3 a b = ((x.ev a).rd && (x.ev b).wr && decide ((x.ev a).thing = (x.ev b).thing) && decide (a ≠ b) && (decide (x.fr a < 0) || decide (place x (x.fr a).toNat < place x b))) := rfl
  rw [e]; simp only [Bool.and_eq_true, Bool.or_eq_true, decide_eq_true_eq]
end Go.Proofs.Ytncllkpekbapjaa
