/- Names. -/
import Derived.Test.YtliabecchkolgaaT1
namespace Go.Proofs.Ytliabecchkolgaa
open Go Go.Abs Go.Proofs
set_option linter.unusedSimpArgs false
theorem inc64 {x : AV} {n : Int} {m : Nat} (h : x = .sc (.int .i64 (IntKind.i64.wrap n))) (h1 : n = m) (h2 : m ≤ 9223372036854775807) : x = .sc (.int .i64 m) := by rw [h, wrap64 (by omega) (by omega), h1]
def okChar (c : UInt8) : Bool := isLetter c.toNat || isDigit c.toNat
def isName (s : ByteArray) : Bool := !(s == ⟨#[]⟩) && !decide ((32 : Int) < s.size) && !isDigit (s.data.toList.getD 0 0).toNat && !isWord s && s.data.toList.all okChar
theorem size_pos {s : ByteArray} (h : (s == ⟨#[]⟩) = false) : 0 < s.size := by
  rcases Nat.eq_zero_or_pos s.size with h0 | h0
  · exfalso
    obtain ⟨a⟩ := s
    have : a = #[] := Array.eq_empty_of_size_eq_zero h0
    subst this
    have : ((⟨#[]⟩ : ByteArray) == ⟨#[]⟩) = true := rfl
    rw [this] at h; cases h
  · exact h0
theorem all_getD {α : Type} {p : α → Bool} {l : List α} (d : α) (h : ∀ j, j < l.length → p (l.getD j d) = true) : l.all p = true := by
  rw [List.all_eq_true]
  intro x hx
  obtain ⟨i, hi, rfl⟩ := List.mem_iff_getElem.1 hx
  have := h i hi
  simpa [List.getD, hi] using this
theorem all_getD_false {α : Type} {p : α → Bool} {l : List α} (d : α) {j : Nat} (hj : j < l.length) (h : p (l.getD j d) = false) : l.all p = false := by
  rw [List.all_eq_false]
  refine ⟨l[j], List.getElem_mem hj, ?_⟩
  simp [List.getD, hj] at h
  simp [h]
theorem name_pure (s : ByteArray) (hs : s.size ≤ 140737488351232) : Pure Try.prog 82 [.sc (.string s)] (fun r => r = .sc (.bool (isName s))) := by
  refine Go.pure Try.func82 nm82 low82 res82 nt82 rfl ?_
  repeat' (first
    | ((with_reducible refine Go.red ?_); conv => whnf)
    | (with_reducible refine Go.and ?_ ?_)
    | (with_reducible exact True.intro)
    | (with_reducible refine Go.far ?_)
    | ((with_reducible refine Apt.mk ?_); (try dsimp only); omega)
    | ((with_reducible refine Ask.mk ?_); first | exact aAsk | exact aAsk2)
    | ((with_reducible refine Go.ari64 ?_ ?_ ?_); (· exact aBnd); (· exact aBnd))
    | ((with_reducible refine Go.ariu8 ?_ ?_ ?_); (· exact aBnd); (· exact aBnd))
    | (with_reducible refine Go.ari0 ?_)
    | (apply Go.elem; (· exact aElem))
    | (apply Go.row; (· exact aRow))
    | (apply Go.gives; (· exact aGives))
    | (apply Go.gives; (· exact aRes))
    | (with_reducible refine Go.unroll ?_)
    | ((with_reducible refine Go.callW (digit_pure _) ?_ ?_); (· exact aFit))
    | ((with_reducible refine Go.callJ (fun _ => digit_pure _) ?_ ?_); (· exact aFit))
    | ((with_reducible refine Go.callE (digit_pure _) ?_ ?_); (· exact aFit))
    | ((with_reducible refine Go.callF (fun _ => digit_pure _) ?_ ?_); (· exact aFit))
    | ((with_reducible refine Go.callW (letter_pure _) ?_ ?_); (· exact aFit))
    | ((with_reducible refine Go.callJ (fun _ => letter_pure _) ?_ ?_); (· exact aFit))
    | ((with_reducible refine Go.callE (letter_pure _) ?_ ?_); (· exact aFit))
    | ((with_reducible refine Go.callF (fun _ => letter_pure _) ?_ ?_); (· exact aFit))
    | ((with_reducible refine Go.callW (word_pure _) ?_ ?_); (· exact aFit))
    | ((with_reducible refine Go.callJ (fun _ => word_pure _) ?_ ?_); (· exact aFit))
    | ((with_reducible refine Go.callE (word_pure _) ?_ ?_); (· exact aFit))
    | ((with_reducible refine Go.callF (fun _ => word_pure _) ?_ ?_); (· exact aFit))
    | (refine Go.gt rfl ?_)
    | (refine Go.gf rfl ?_)
    | (with_reducible refine Go.join ?_)
    | (refine Go.lt' rfl ?_)
    | (refine Go.lf' rfl ?_)
    | ((with_reducible refine Go.bool ?_ ?_) <;> intro hc <;> (try simp only [List.length_map, ne_eq, hcs] at hc) <;> try (exfalso; omega))
    | ((with_reducible refine Res.eq ?_ ?_); (· exact aFit)))
  · refine ⟨fun h => ?_⟩
    simp only [List.length_map, ne_eq, hcs] at h
    have := size_pos h.1
    omega
  · congr 2
    simp only [isName]
    grind
  · refine Go.loop (fun i : Nat => [(22, .sc (.int .i64 i)), (21, .sc (.int .i64 s.size)), (0, .sc (.string s))]) (fun i _ _ => i ≤ s.size ∧ ∀ j, j < i → okChar (s.data.toList.getD j 0) = true) (fun i => s.size - i) 0 ⟨rfl, rfl, rfl, trivial⟩ ⟨Nat.zero_le _, fun j hj => by omega⟩ ?_
    intro i H nx ⟨hi, hok⟩
    repeat' (first
    | ((with_reducible refine Go.red ?_); conv => whnf)
    | (with_reducible refine Go.and ?_ ?_)
    | (with_reducible exact True.intro)
    | (with_reducible refine Go.far ?_)
    | ((with_reducible refine Apt.mk ?_); (try dsimp only); omega)
    | ((with_reducible refine Ask.mk ?_); first | exact aAsk | exact aAsk2)
    | ((with_reducible refine Go.ari64 ?_ ?_ ?_); (· exact aBnd); (· exact aBnd))
    | ((with_reducible refine Go.ariu8 ?_ ?_ ?_); (· exact aBnd); (· exact aBnd))
    | (with_reducible refine Go.ari0 ?_)
    | (apply Go.elem; (· exact aElem))
    | (apply Go.row; (· exact aRow))
    | (apply Go.gives; (· exact aGives))
    | (apply Go.gives; (· exact aRes))
    | (with_reducible refine Go.unroll ?_)
    | ((with_reducible refine Go.callW (digit_pure _) ?_ ?_); (· exact aFit))
    | ((with_reducible refine Go.callJ (fun _ => digit_pure _) ?_ ?_); (· exact aFit))
    | ((with_reducible refine Go.callE (digit_pure _) ?_ ?_); (· exact aFit))
    | ((with_reducible refine Go.callF (fun _ => digit_pure _) ?_ ?_); (· exact aFit))
    | ((with_reducible refine Go.callW (letter_pure _) ?_ ?_); (· exact aFit))
    | ((with_reducible refine Go.callJ (fun _ => letter_pure _) ?_ ?_); (· exact aFit))
    | ((with_reducible refine Go.callE (letter_pure _) ?_ ?_); (· exact aFit))
    | ((with_reducible refine Go.callF (fun _ => letter_pure _) ?_ ?_); (· exact aFit))
    | ((with_reducible refine Go.callW (word_pure _) ?_ ?_); (· exact aFit))
    | ((with_reducible refine Go.callJ (fun _ => word_pure _) ?_ ?_); (· exact aFit))
    | ((with_reducible refine Go.callE (word_pure _) ?_ ?_); (· exact aFit))
    | ((with_reducible refine Go.callF (fun _ => word_pure _) ?_ ?_); (· exact aFit))
    | (refine Go.gt rfl ?_)
    | (refine Go.gf rfl ?_)
    | (with_reducible refine Go.join ?_)
    | (refine Go.lt' rfl ?_)
    | (refine Go.lf' rfl ?_)
    | ((with_reducible refine Go.bool ?_ ?_) <;> intro hc <;> (try simp only [List.length_map, ne_eq, hcs] at hc) <;> try (exfalso; omega))
    | ((with_reducible refine Res.eq ?_ ?_); (· exact aFit)))
    · congr 2
      have h1 : s.data.toList.all okChar = false := all_getD_false 0 (j := i) (by simp; omega) (by simpa [okChar] using hc)
      simp [isName, h1]
    · refine ⟨i + 1, by omega, aLess, by omega, fun j hj => ?_⟩
      by_cases h : j = i
      · subst h; simp only [okChar]; grind
      · exact hok j (by omega)
    · congr 2
      have h1 : s.data.toList.all okChar = true := all_getD 0 fun j hj => hok j (by simp at hj; omega)
      simp only [isName, h1]
      grind
end Go.Proofs.Ytliabecchkolgaa
