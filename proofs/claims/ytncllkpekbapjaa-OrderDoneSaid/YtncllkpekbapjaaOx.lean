/- The document's line. -/
import Derived.Test.YtncllkpekbapjaaOv
namespace Go.Proofs.Ytncllkpekbapjaa
open Go Go.Abs Go.Proofs
set_option linter.unusedSimpArgs false
set_option linter.unusedVariables false
def doneB (n : Nat) (D : Nat → Bool) : List AV := (List.range n).map fun (k : Nat) => bl (D k)
theorem doneB_len (n : Nat) (D : Nat → Bool) : (doneB n D).length = n := by simp [doneB]
theorem doneB_zero (n : Nat) : List.replicate n (bl false) = doneB n fun _ => false := by simp [doneB, List.map_const']
theorem doneB_get {n : Nat} {D : Nat → Bool} {m : Nat} (h : m < n) (d : AV) : (doneB n D).getD m d = bl (D m) := by
  simp [doneB, List.getD, h]
theorem doneB_set {n : Nat} {D : Nat → Bool} {k : Nat} (h : k < n) : (doneB n D).set k (bl true) = doneB n (setD D k) := by
  apply List.ext_getElem?
  intro j
  simp only [doneB, List.getElem?_set, List.getElem?_map, List.length_map, List.length_range, setD]
  by_cases hj : j < n
  · rw [List.getElem?_range hj]
    by_cases h1 : k = j
    · rw [if_pos h1, if_pos (by omega)]; simp [h1]
    · rw [if_neg h1]; simp [Ne.symm h1]
  · rw [if_neg (by omega), List.getElem?_eq_none (by simp; omega)]; rfl
end Go.Proofs.Ytncllkpekbapjaa
