/- Lines of events: what comes ahead of what. -/
import Derived.Test.YtncllkpekbapjaaPf
namespace Go.Proofs.Ytncllkpekbapjaa
open Go Go.Abs Go.Proofs
set_option linter.unusedSimpArgs false
set_option linter.unusedVariables false
def Ord (M : Mat) (l : List Int) : Prop := ∀ i, i < l.length → ∀ a, M a (l.getD i 0).toNat = true → ∃ j, j < i ∧ l.getD j 0 = (a : Int)
theorem getD_app {l m : List Int} {i : Nat} (h : i < l.length) : (l ++ m).getD i 0 = l.getD i 0 := by simp [List.getD, List.getElem?_append_left h]
theorem getD_end {l : List Int} {a : Int} : (l ++ [a]).getD l.length 0 = a := by simp [List.getD]
theorem mem_getD {l : List Int} {a : Int} (h : a ∈ l) : ∃ j, j < l.length ∧ l.getD j 0 = a := by
  obtain ⟨j, hj, e⟩ := List.mem_iff_getElem.1 h
  exact ⟨j, hj, by rw [← e, getD_lt hj]⟩
theorem Ord.add {M : Mat} {l : List Int} {i : Nat} (h : Ord M l) (hp : ∀ a, M a i = true → (a : Int) ∈ l) : Ord M (l ++ [(i : Int)]) := by
  intro j hj a hm
  simp only [List.length_append, List.length_cons, List.length_nil] at hj
  by_cases hji : j < l.length
  · rw [getD_app hji] at hm
    obtain ⟨k, hk, e⟩ := h j hji a hm
    exact ⟨k, hk, by rw [getD_app (by omega)]; exact e⟩
  · have : j = l.length := by omega
    subst this
    rw [getD_end, Int.toNat_natCast] at hm
    obtain ⟨k, hk, e⟩ := mem_getD (hp a hm)
    exact ⟨k, hk, by rw [getD_app hk]; exact e⟩
theorem nodup_idx {l : List Int} (h : l.Nodup) {i j : Nat} (hi : i < l.length) (hj : j < l.length) (e : l[i] = l[j]) : i = j := by
  unfold List.Nodup at h
  rw [List.pairwise_iff_getElem] at h
  rcases Nat.lt_trichotomy i j with h1 | h1 | h1
  · exact absurd e (h i j hi hj h1)
  · exact h1
  · exact absurd e.symm (h j i hj hi h1)
structure IsL (n : Nat) (l : List Int) : Prop where
  len : l.length = n
  ran : ∀ j, j < n → 0 ≤ l.getD j 0 ∧ l.getD j 0 < (n : Int)
  inj : ∀ j k, j < n → k < n → l.getD j 0 = l.getD k 0 → j = k
  all : ∀ a : Nat, a < n → ∃ j, j < n ∧ l.getD j 0 = (a : Int)
theorem isL_of {n : Nat} {l : List Int} (h : isLine n l = true) : IsL n l := by
  have hp := line_perm.1 h
  simp only [isLine, Bool.and_eq_true, decide_eq_true_eq] at h
  obtain ⟨⟨h1, h2⟩, h3⟩ := h
  refine ⟨h1, fun j hj => h2 _ (getD_mem' 0 (by omega)), fun j k hj hk e => ?_, fun a ha => ?_⟩
  · rw [getD_lt (by omega), getD_lt (by omega)] at e
    exact nodup_idx h3 (by omega) (by omega) e
  · obtain ⟨j, hj, e⟩ := mem_getD (hp.mem_iff.2 (iota_mem.2 ⟨by omega, by omega⟩ : (a : Int) ∈ iota n))
    exact ⟨j, by omega, e⟩
def Ahead (l : List Int) (a b : Nat) : Prop := ∃ j k, j < k ∧ k < l.length ∧ l.getD j 0 = (a : Int) ∧ l.getD k 0 = (b : Int)
theorem Ord.ahead {n : Nat} {M : Mat} {l : List Int} (h : Ord M l) (hl : IsL n l) {a b : Nat} (hb : b < n) (hm : M a b = true) : Ahead l a b := by
  obtain ⟨k, hk, e⟩ := hl.all b hb
  obtain ⟨j, hj, e2⟩ := h k (by rw [hl.len]; exact hk) a (by rw [e]; exact hm)
  exact ⟨j, k, hj, by rw [hl.len]; exact hk, e2, e⟩
theorem IsL.idx {n : Nat} {l : List Int} (hl : IsL n l) {a b : Nat} (h : Ahead l a b) {j k : Nat} (hj : j < n) (hk : k < n) (ea : l.getD j 0 = (a : Int)) (eb : l.getD k 0 = (b : Int)) : j < k := by
  obtain ⟨j', k', h1, h2, h3, h4⟩ := h
  have := hl.len
  rw [hl.inj j j' hj (by omega) (by rw [ea, h3]), hl.inj k k' hk (by omega) (by rw [eb, h4])]
  exact h1
def posS (l : List Int) : Nat → Nat → Int
  | 0 => fun _ => 0
  | i + 1 => updW (posS l i) (l.getD i 0).toNat i
theorem posS_at {n : Nat} {l : List Int} (hl : IsL n l) : ∀ (i j : Nat), i ≤ n → j < i → posS l i (l.getD j 0).toNat = j
  | 0, j, _, h => by omega
  | i + 1, j, hi, h => by
    simp only [posS, updW]
    by_cases hji : j = i
    · subst hji; rw [if_pos rfl]
    · have h1 := hl.ran j (by omega)
      have h2 := hl.ran i (by omega)
      rw [if_neg (fun e => hji (hl.inj j i (by omega) (by omega) (by omega)))]
      exact posS_at hl i j (by omega) (by omega)
theorem ahead_pos {n : Nat} {l : List Int} (hl : IsL n l) {a b : Nat} (h : Ahead l a b) : posS l n a < posS l n b := by
  obtain ⟨j, k, h1, h2, h3, h4⟩ := h
  have h5 := posS_at hl n j (Nat.le_refl _) (by have := hl.len; omega)
  have h6 := posS_at hl n k (Nat.le_refl _) (by have := hl.len; omega)
  rw [h3, Int.toNat_natCast] at h5
  rw [h4, Int.toNat_natCast] at h6
  omega
theorem see_last {x : Exec} {l : List Int} (hl : IsL x.events.length l) : ∀ (i : Nat), i ≤ x.events.length → ∀ t : Int,
    ((seeS x (l.take i)).1 t = -1 ∧ ∀ j, j < i → (x.ev (l.getD j 0).toNat).wr = true → (x.ev (l.getD j 0).toNat).thing ≠ t) ∨
    ∃ j, j < i ∧ (seeS x (l.take i)).1 t = l.getD j 0 ∧ (x.ev (l.getD j 0).toNat).wr = true ∧ (x.ev (l.getD j 0).toNat).thing = t ∧ ∀ k, j < k → k < i → (x.ev (l.getD k 0).toNat).wr = true → (x.ev (l.getD k 0).toNat).thing ≠ t
  | 0, _, t => .inl ⟨by simp [seeS], fun _ h => by omega⟩
  | i + 1, hi, t => by
    have ih := see_last hl i (by omega) t
    rw [seeS_succ x (by rw [hl.len]; omega)]
    simp only [seeStep]
    cases hw : (x.ev (l.getD i 0).toNat).wr with
    | false =>
      rw [if_neg (by decide)]
      rcases ih with ⟨h1, h2⟩ | ⟨j, h1, h2, h3, h4, h5⟩
      · refine .inl ⟨h1, fun j hj hwj => ?_⟩
        by_cases hji : j = i
        · subst hji; rw [hw] at hwj; cases hwj
        · exact h2 j (by omega) hwj
      · refine .inr ⟨j, by omega, h2, h3, h4, fun k hk hki hwk => ?_⟩
        by_cases hki : k = i
        · subst hki; rw [hw] at hwk; cases hwk
        · exact h5 k hk (by omega) hwk
    | true =>
      rw [if_pos rfl]
      by_cases ht : t = (x.ev (l.getD i 0).toNat).thing
      · refine .inr ⟨i, by omega, by simp [updI, ht], hw, ht.symm, fun k hk hki => by omega⟩
      · have e : updI (seeS x (l.take i)).1 (x.ev (l.getD i 0).toNat).thing (l.getD i 0) t = (seeS x (l.take i)).1 t := by simp only [updI]; rw [if_neg ht]
        rw [e]
        rcases ih with ⟨h1, h2⟩ | ⟨j, h1, h2, h3, h4, h5⟩
        · refine .inl ⟨h1, fun j hj hwj => ?_⟩
          by_cases hji : j = i
          · subst hji; exact fun e => ht e.symm
          · exact h2 j (by omega) hwj
        · refine .inr ⟨j, by omega, h2, h3, h4, fun k hk hki hwk => ?_⟩
          by_cases hki : k = i
          · subst hki; exact fun e => ht e.symm
          · exact h5 k hk (by omega) hwk
theorem see_at {x : Exec} {l : List Int} (hl : IsL x.events.length l) (j : Nat) (hj : j < x.events.length) : ∀ k, j < k → k ≤ x.events.length → (seeS x (l.take k)).2 (l.getD j 0).toNat = if (x.ev (l.getD j 0).toNat).rd = true then (seeS x (l.take j)).1 (x.ev (l.getD j 0).toNat).thing else -1 := by
  intro k
  induction k with
  | zero => intro h; omega
  | succ k ih =>
    intro h1 h2
    rw [seeS_succ x (by rw [hl.len]; omega)]
    simp only [seeStep, updW]
    by_cases hjk : j = k
    · subst hjk; rw [if_pos rfl]
    · have r1 := hl.ran j hj
      have r2 := hl.ran k (by omega)
      rw [if_neg (fun e => hjk (hl.inj j k hj (by omega) (by omega)))]
      exact ih (by omega) (by omega)
theorem see_rd {x : Exec} {l : List Int} (hl : IsL x.events.length l) {j : Nat} (hj : j < x.events.length) : (seeS x l).2 (l.getD j 0).toNat = if (x.ev (l.getD j 0).toNat).rd = true then (seeS x (l.take j)).1 (x.ev (l.getD j 0).toNat).thing else -1 := by
  have := see_at hl j hj x.events.length hj (Nat.le_refl _)
  rwa [show l.take x.events.length = l by rw [← hl.len, List.take_length]] at this
end Go.Proofs.Ytncllkpekbapjaa
