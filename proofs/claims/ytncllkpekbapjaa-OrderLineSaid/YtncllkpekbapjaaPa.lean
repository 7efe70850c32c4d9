/- The heap gives the least. -/
import Derived.Test.YtncllkpekbapjaaOt
namespace Go.Proofs.Ytncllkpekbapjaa
open Go Go.Abs Go.Proofs
set_option linter.unusedSimpArgs false
set_option linter.unusedVariables false
theorem swapL_get {l : List Int} {i j : Nat} (hi : i < l.length) (hj : j < l.length) (k : Nat) : (swapL l i j).getD k 0 = if k = j then l.getD i 0 else if k = i then l.getD j 0 else l.getD k 0 := by
  unfold swapL
  simp only [List.getD, List.getElem?_set, List.length_set]
  by_cases h1 : k = j
  · subst h1; simp [hj]
  · rw [if_neg (Ne.symm h1)]
    by_cases h2 : k = i
    · subst h2; simp [hi, h1]
    · rw [if_neg (Ne.symm h2)]; simp [h1, h2]
def IsHeap (l : List Int) (n : Nat) : Prop := ∀ c, 0 < c → c < n → l.getD ((c - 1) / 2) 0 ≤ l.getD c 0
theorem IsHeap.root {l : List Int} {n : Nat} (h : IsHeap l n) : ∀ m j, j ≤ m → j < n → l.getD 0 0 ≤ l.getD j 0 := by
  intro m
  induction m with
  | zero => intro j h1 _; have : j = 0 := by omega
            subst this; exact Int.le_refl _
  | succ m ih =>
    intro j h1 h2
    by_cases h0 : j = 0
    · subst h0; exact Int.le_refl _
    · exact Int.le_trans (ih ((j - 1) / 2) (by omega) (by omega)) (h j (by omega) h2)
theorem upF_heap : ∀ (f : Nat) (l : List Int) (j n : Nat), n = l.length → j < n → j < f → (∀ c, 0 < c → c < n → c ≠ j → l.getD ((c - 1) / 2) 0 ≤ l.getD c 0) →
    (∀ c, 0 < c → c < n → (c - 1) / 2 = j → 0 < j → l.getD ((j - 1) / 2) 0 ≤ l.getD c 0) → IsHeap (upF f l j) n
  | 0, l, j, n, hn, hj, hf, _, _ => by omega
  | f + 1, l, j, n, hn, hj, hf, h1, h2 => by
    rw [upF]
    split
    · rename_i h0
      have : j = 0 := by omega
      intro c hc hcn
      exact h1 c hc hcn (by omega)
    · rename_i h0
      have hp : (j - 1) / 2 < j := by omega
      have hg := swapL_get (l := l) (i := (j - 1) / 2) (j := j) (by omega) (by omega)
      split
      · rename_i hlt
        refine upF_heap f _ _ n (by rw [swapL_len]; exact hn) (by omega) (by omega) (fun c hc hcn hcp => ?_) (fun c hc hcn hcp hp0 => ?_)
        · rw [hg, hg]
          by_cases hcj : c = j
          · subst hcj
            simp only [if_true]
            rw [if_neg (by omega)]; omega
          · rw [if_neg hcj, if_neg hcp]
            by_cases h3 : (c - 1) / 2 = j
            · rw [if_pos h3]
              exact h2 c hc hcn h3 (by omega)
            · rw [if_neg h3]
              by_cases h4 : (c - 1) / 2 = (j - 1) / 2
              · rw [if_pos h4]
                have := h1 c hc hcn hcj
                rw [h4] at this; omega
              · rw [if_neg h4]; exact h1 c hc hcn hcj
        · have h5 := h1 ((j - 1) / 2) hp0 (by omega) (by omega)
          rw [hg, hg, if_neg (by omega), if_neg (by omega)]
          by_cases hcj : c = j
          · rw [if_pos hcj]; exact h5
          · rw [if_neg hcj, if_neg (by omega)]
            have := h1 c hc hcn hcj
            rw [hcp] at this; omega
      · rename_i hlt
        intro c hc hcn
        by_cases hcj : c = j
        · subst hcj; omega
        · exact h1 c hc hcn hcj
theorem pushS_heap {l : List Int} {k : Int} (h : IsHeap l l.length) : IsHeap (pushS l k) (pushS l k).length := by
  rw [pushS_len]
  unfold pushS
  have hg : ∀ c, c < l.length → (l ++ [k]).getD c 0 = l.getD c 0 := fun c hc => by simp [List.getD, List.getElem?_append_left hc]
  refine upF_heap _ _ _ _ (by simp) (by omega) (by omega) (fun c hc hcn hcj => ?_) (fun c hc hcn hcj h0 => by omega)
  rw [hg _ (by omega), hg _ (by omega)]
  exact h c hc (by omega)
theorem downF_out : ∀ (f : Nat) (l : List Int) (i n m : Nat), n ≤ l.length → i < l.length → n ≤ m → i < n ∨ n ≤ 2 * i + 1 → (downF f l i n).getD m 0 = l.getD m 0
  | 0, l, i, n, m, _, _, _, _ => rfl
  | f + 1, l, i, n, m, hn, hi, hm, hin => by
    rw [downF]
    split
    · rfl
    · rename_i h0
      have hj : downJ l i n < n := by unfold downJ; split <;> omega
      split
      · rw [downF_out f _ _ _ _ (by rw [swapL_len]; exact hn) (by rw [swapL_len]; omega) hm (.inl hj), swapL_get hi (by omega), if_neg (by omega), if_neg (by omega)]
      · rfl
theorem downF_heap : ∀ (f : Nat) (l : List Int) (i n : Nat), n ≤ l.length → i < l.length → n ≤ f + i → (∀ c, 0 < c → c < n → (c - 1) / 2 ≠ i → l.getD ((c - 1) / 2) 0 ≤ l.getD c 0) →
    (∀ c, 0 < c → c < n → (c - 1) / 2 = i → 0 < i → l.getD ((i - 1) / 2) 0 ≤ l.getD c 0) → IsHeap (downF f l i n) n
  | 0, l, i, n, hn, hi, hf, h1, h2 => by
    intro c hc hcn
    rw [downF]
    exact h1 c hc hcn (by omega)
  | f + 1, l, i, n, hn, hi, hf, h1, h2 => by
    rw [downF]
    split
    · intro c hc hcn
      exact h1 c hc hcn (by omega)
    · rename_i h0
      have hj : downJ l i n < n ∧ (downJ l i n - 1) / 2 = i ∧ i < downJ l i n ∧ ∀ c, 0 < c → c < n → (c - 1) / 2 = i → l.getD (downJ l i n) 0 ≤ l.getD c 0 := by
        unfold downJ
        split
        · rename_i h3
          refine ⟨h3.1, by omega, by omega, fun c hc hcn hci => ?_⟩
          obtain rfl | rfl : c = 2 * i + 1 ∨ c = 2 * i + 2 := by omega
          · omega
          · exact Int.le_refl _
        · rename_i h3
          refine ⟨by omega, by omega, by omega, fun c hc hcn hci => ?_⟩
          obtain rfl | rfl : c = 2 * i + 1 ∨ c = 2 * i + 2 := by omega
          · exact Int.le_refl _
          · have := fun h => h3 ⟨hcn, h⟩
            omega
      obtain ⟨j1, j2, j3, j4⟩ := hj
      generalize downJ l i n = j at *
      have hg := swapL_get (l := l) (i := i) (j := j) hi (by omega)
      split
      · rename_i hlt
        refine downF_heap f _ _ n (by rw [swapL_len]; exact hn) (by rw [swapL_len]; omega) (by omega) (fun c hc hcn hcj => ?_) (fun c hc hcn hcj _ => ?_)
        · rw [hg, hg, if_neg hcj]
          by_cases h3 : (c - 1) / 2 = i
          · rw [if_pos h3]
            by_cases h4 : c = j
            · rw [if_pos h4]; omega
            · rw [if_neg h4, if_neg (by omega)]
              exact j4 c hc hcn h3
          · rw [if_neg h3]
            by_cases h4 : c = j
            · subst h4; exact absurd j2 h3
            · rw [if_neg h4]
              by_cases h5 : c = i
              · rw [if_pos h5, h5]
                exact h2 j (by omega) j1 j2 (by omega)
              · rw [if_neg h5]
                exact h1 c hc hcn h3
        · rw [hg, hg, j2, if_neg (by omega), if_pos rfl, if_neg (by omega), if_neg (by omega)]
          have := h1 c hc hcn (by omega)
          rw [hcj] at this; exact this
      · rename_i hlt
        intro c hc hcn
        by_cases h3 : (c - 1) / 2 = i
        · have := j4 c hc hcn h3
          rw [h3]; omega
        · exact h1 c hc hcn h3
theorem popN_root {l : List Int} (h0 : 0 < l.length) : popN l = l.getD 0 0 := by
  unfold popN sunk
  rw [downF_out _ _ _ _ _ (by rw [swapL_len]; omega) (by rw [swapL_len]; omega) (by omega) (by omega), swapL_get h0 (by omega), if_pos rfl]
theorem popL_heap {l : List Int} (h : IsHeap l l.length) (h0 : 0 < l.length) : IsHeap (popL l) (popL l).length := by
  have hl : (popL l).length = l.length - 1 := by have := popL_len h0; omega
  rw [hl]
  have hg := swapL_get (l := l) (i := 0) (j := l.length - 1) h0 (by omega)
  have hd : IsHeap (sunk l) (l.length - 1) := by
    unfold sunk
    refine downF_heap _ _ _ _ (by rw [swapL_len]; omega) (by rw [swapL_len]; omega) (by omega) (fun c hc hcn hci => ?_) (fun c _ _ _ h => by omega)
    rw [hg, hg, if_neg (by omega), if_neg (by omega), if_neg (by omega), if_neg (by omega)]
    exact h c hc (by omega)
  intro c hc hcn
  have hgt : ∀ k, k < l.length - 1 → (popL l).getD k 0 = (sunk l).getD k 0 := fun k hk => by simp [popL, List.getD, List.getElem?_take, hk]
  rw [hgt _ (by omega), hgt _ hcn]
  exact hd c hc hcn
theorem popN_least {l : List Int} (h : IsHeap l l.length) (h0 : 0 < l.length) : ∀ x ∈ l, popN l ≤ x := by
  intro x hx
  obtain ⟨j, hj, rfl⟩ := List.mem_iff_getElem.1 hx
  rw [popN_root h0, ← getD_lt hj]
  exact h.root _ j (Nat.le_refl _) hj
end Go.Proofs.Ytncllkpekbapjaa
