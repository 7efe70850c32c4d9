/- A greedy line is found where no arrows lead round. -/
import Derived.Test.YtncllkpekbapjaaOr
namespace Go.Proofs.Ytncllkpekbapjaa
open Go Go.Abs Go.Proofs
set_option linter.unusedSimpArgs false
set_option linter.unusedVariables false
def freeAt (n : Nat) (M : Mat) (D : Nat → Bool) (i : Nat) : Bool := !D i && (List.range n).all fun k => D k || !M k i
def nextG (n : Nat) (M : Mat) (D : Nat → Bool) : Option Nat := (List.range n).find? (freeAt n M D)
def setD (D : Nat → Bool) (i : Nat) : Nat → Bool := fun k => D k || decide (k = i)
def greedy (n : Nat) (M : Mat) : Nat → (Nat → Bool) → List Int → Option (List Int)
  | 0, _, out => some out
  | f + 1, D, out => match nextG n M D with
    | none => none
    | some i => greedy n M f (setD D i) (out ++ [(i : Int)])
def todo (n : Nat) (D : Nat → Bool) : Nat := (List.range n).countP fun k => !D k
theorem freeAt_iff {n : Nat} {M : Mat} {D : Nat → Bool} {i : Nat} : freeAt n M D i = true ↔ D i = false ∧ ∀ k, k < n → M k i = true → D k = true := by
  simp only [freeAt, Bool.and_eq_true, Bool.not_eq_true', List.all_eq_true, List.mem_range, Bool.or_eq_true]
  refine and_congr_right fun _ => forall_congr' fun k => forall_congr' fun _ => ?_
  cases M k i <;> cases D k <;> simp
theorem todo_set {n : Nat} {D : Nat → Bool} {i : Nat} (hi : i < n) (hD : D i = false) : todo n (setD D i) + 1 = todo n D := by
  have key : ∀ m, (List.range m).countP (fun k => !setD D i k) + (if i < m then 1 else 0) = (List.range m).countP fun k => !D k := by
    intro m
    induction m with
    | zero => simp
    | succ m ih =>
      rw [List.range_succ, List.countP_append, List.countP_append]
      simp only [List.countP_cons, List.countP_nil]
      by_cases him : i = m
      · subst him
        rw [if_neg (by omega)] at ih
        have : setD D i i = true := by simp [setD]
        simp only [this, hD, Bool.not_true, Bool.not_false, Bool.false_eq_true, if_false, if_true, Nat.lt_succ_self]
        omega
      · have e : setD D i m = D m := by simp [setD, Ne.symm him]
        rw [e]
        generalize (if (!D m) = true then 1 else 0) = z
        by_cases hlt : i < m
        · have h2 : i < m + 1 := by omega
          simp only [hlt, h2, if_true] at ih ⊢; omega
        · have h2 : ¬ i < m + 1 := by omega
          simp only [hlt, h2, if_false] at ih ⊢; omega
  have := key n
  rw [if_pos hi] at this
  exact this
def Closed (M : Mat) (D : Nat → Bool) : Prop := ∀ a b, M a b = true → D b = true → D a = true
theorem Closed.way {M : Mat} {D : Nat → Bool} (h : Closed M D) {a b : Nat} (w : Way M a b) (hb : D b = true) : D a = true := by
  induction w with
  | one h1 => exact h _ _ h1 hb
  | more h1 _ ih => exact h _ _ h1 (ih hb)
theorem Closed.set {n : Nat} {M : Mat} {D : Nat → Bool} {i : Nat} (hM : ∀ a b, M a b = true → a < n ∧ b < n) (h : Closed M D) (hf : freeAt n M D i = true) : Closed M (setD D i) := by
  intro a b hab hb
  simp only [setD, Bool.or_eq_true, decide_eq_true_eq] at hb ⊢
  rcases hb with hb | rfl
  · exact .inl (h a b hab hb)
  · exact .inl ((freeAt_iff.1 hf).2 a (hM _ _ hab).1 hab)
theorem todo_none (n : Nat) : todo n (fun _ => false) = n := by
  simp [todo]
end Go.Proofs.Ytncllkpekbapjaa
