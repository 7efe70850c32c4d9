/- The document's Reads. -/
import Derived.Test.YtncllkpekbapjaaPc
namespace Go.Proofs.Ytncllkpekbapjaa
open Go Go.Abs Go.Proofs
set_option linter.unusedSimpArgs false
set_option linter.unusedVariables false
theorem updW_updW (W : Nat → Int) (k : Nat) (a b : Int) : updW (updW W k a) k b = updW W k b := by
  funext y; simp only [updW]; split <;> rfl
theorem wC_one (n : Nat) (W : Nat → Int) : wC n W = ((List.range n).map W).map i64 := by delta wC; rfl
theorem wC_slen {n k : Nat} {W : Nat → Int} {v : AV} : ((wC n W).set k v).length = n := by rw [List.length_set, wC_len]
theorem wC_sgetN {n m k : Nat} {W : Nat → Int} (v d : AV) (h : m < n) (e : m = k) : ((wC n W).set k v).getD m d = v := by
  subst e
  have : m < (wC n W).length := by rw [wC_len]; exact h
  simp [List.getD, List.getElem?_set, this]
theorem wC_getN {n m : Nat} {W : Nat → Int} (h : m < n) (d : AV) : (wC n W).getD m d = i64 (W m) := wC_get h d
end Go.Proofs.Ytncllkpekbapjaa
