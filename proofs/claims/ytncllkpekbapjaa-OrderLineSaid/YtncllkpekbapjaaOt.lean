/- A greedy line is found where no arrows lead round. -/
import Derived.Test.YtncllkpekbapjaaOr
namespace Go.Proofs.Ytncllkpekbapjaa
open Go Go.Abs Go.Proofs
set_option linter.unusedSimpArgs false
set_option linter.unusedVariables false
theorem countP_lt {α : Type} {p q : α → Bool} : ∀ {l : List α}, (∀ a ∈ l, p a = true → q a = true) → (∃ a ∈ l, q a = true ∧ p a = false) → l.countP p < l.countP q
  | [], _, ⟨a, h, _⟩ => by simp at h
  | b :: l, h, ⟨a, ha, h1, h2⟩ => by
    have hle : l.countP p ≤ l.countP q := List.countP_mono_left fun a ha => h a (List.mem_cons_of_mem _ ha)
    simp only [List.countP_cons]
    rcases List.mem_cons.1 ha with rfl | ha
    · simp only [h1, h2, if_true, Bool.false_eq_true, if_false]; omega
    · have ih := countP_lt (l := l) (fun a ha => h a (List.mem_cons_of_mem _ ha)) ⟨a, ha, h1, h2⟩
      cases hp : p b with
      | false => simp only [Bool.false_eq_true, if_false]; split <;> omega
      | true => have := h b List.mem_cons_self hp; simp only [this, if_true]; omega
def freeAt (n : Nat) (M : Mat) (D : Nat → Bool) (i : Nat) : Bool := !D i && (List.range n).all fun k => D k || !M k i
def nextG (n : Nat) (M : Mat) (D : Nat → Bool) : Option Nat := (List.range n).find? (freeAt n M D)
def setD (D : Nat → Bool) (i : Nat) : Nat → Bool := fun k => D k || decide (k = i)
def greedy (n : Nat) (M : Mat) : Nat → (Nat → Bool) → List Int → Option (List Int)
  | 0, _, out => some out
  | f + 1, D, out => match nextG n M D with
    | none => none
    | some i => greedy n M f (setD D i) (out ++ [(i : Int)])
def lineG (n : Nat) (M : Mat) : Option (List Int) := greedy n M n (fun _ => false) []
def todo (n : Nat) (D : Nat → Bool) : Nat := (List.range n).countP fun k => !D k
theorem freeAt_iff {n : Nat} {M : Mat} {D : Nat → Bool} {i : Nat} : freeAt n M D i = true ↔ D i = false ∧ ∀ k, k < n → M k i = true → D k = true := by
  simp only [freeAt, Bool.and_eq_true, Bool.not_eq_true', List.all_eq_true, List.mem_range, Bool.or_eq_true]
  refine and_congr_right fun _ => forall_congr' fun k => forall_congr' fun _ => ?_
  cases M k i <;> cases D k <;> simp
theorem nextG_some {n : Nat} {M : Mat} {D : Nat → Bool} {i : Nat} (h : nextG n M D = some i) : i < n ∧ freeAt n M D i = true ∧ ∀ j, j < i → freeAt n M D j = false := by
  have h1 := List.find?_some h
  have h2 := List.mem_of_find?_eq_some h
  refine ⟨by simpa using h2, h1, fun j hj => ?_⟩
  obtain ⟨_, l1, l2, e, ha⟩ := List.find?_eq_some_iff_append.1 h
  have hl : l1.length = i := by
    have h3 : (List.range n)[l1.length]? = some i := by rw [e]; simp
    have h4 := List.getElem?_eq_some_iff.1 h3
    obtain ⟨h5, h6⟩ := h4
    rw [List.getElem_range] at h6
    exact h6
  have hj2 : j ∈ l1 := by
    have h3 : (List.range n)[j]? = l1[j]? := by rw [e, List.getElem?_append_left (by omega)]
    have hin : i < n := by simpa using h2
    rw [List.getElem?_range (by omega)] at h3
    exact List.mem_of_getElem? h3.symm
  simpa using ha j hj2
theorem nextG_none {n : Nat} {M : Mat} {D : Nat → Bool} (h : nextG n M D = none) : ∀ i, i < n → freeAt n M D i = false := by
  intro i hi
  have := List.find?_eq_none.1 h i (by simpa using hi)
  simpa using this
theorem todo_set {n : Nat} {D : Nat → Bool} {i : Nat} (hi : i < n) (hD : D i = false) : todo n (setD D i) + 1 = todo n D := by
  have key : ∀ m, (List.range m).countP (fun k => !setD D i k) + (if i < m then 1 else 0) = (List.range m).countP fun k => !D k := by
    intro m
    induction m with
    | zero => simp
    | succ m ih =>
      rw [List.range_succ, List.countP_append, List.countP_append]
      simp only [List.countP_cons, List.countP_nil]
      by_cases him : i = m
      · subst him
        rw [if_neg (by omega)] at ih
        have : setD D i i = true := by simp [setD]
        simp only [this, hD, Bool.not_true, Bool.not_false, Bool.false_eq_true, if_false, if_true, Nat.lt_succ_self]
        omega
      · have e : setD D i m = D m := by simp [setD, Ne.symm him]
        rw [e]
        generalize (if (!D m) = true then 1 else 0) = z
        by_cases hlt : i < m
        · have h2 : i < m + 1 := by omega
          simp only [hlt, h2, if_true] at ih ⊢; omega
        · have h2 : ¬ i < m + 1 := by omega
          simp only [hlt, h2, if_false] at ih ⊢; omega
  have := key n
  rw [if_pos hi] at this
  exact this
def Closed (M : Mat) (D : Nat → Bool) : Prop := ∀ a b, M a b = true → D b = true → D a = true
theorem Closed.way {M : Mat} {D : Nat → Bool} (h : Closed M D) {a b : Nat} (w : Way M a b) (hb : D b = true) : D a = true := by
  induction w with
  | one h1 => exact h _ _ h1 hb
  | more h1 _ ih => exact h _ _ h1 (ih hb)
theorem Way.last {M : Mat} {a b : Nat} (w : Way M a b) : ∃ c, M c b = true ∧ (a = c ∨ Way M a c) := by
  induction w with
  | one h => exact ⟨_, h, .inl rfl⟩
  | more h w ih =>
    obtain ⟨c, h1, h2⟩ := ih
    refine ⟨c, h1, .inr ?_⟩
    rcases h2 with rfl | h2
    · exact .one h
    · exact .more h h2
theorem Closed.set {n : Nat} {M : Mat} {D : Nat → Bool} {i : Nat} (hM : ∀ a b, M a b = true → a < n ∧ b < n) (h : Closed M D) (hf : freeAt n M D i = true) : Closed M (setD D i) := by
  intro a b hab hb
  simp only [setD, Bool.or_eq_true, decide_eq_true_eq] at hb ⊢
  rcases hb with hb | rfl
  · exact .inl (h a b hab hb)
  · exact .inl ((freeAt_iff.1 hf).2 a (hM _ _ hab).1 hab)
theorem todo_pos {n : Nat} {D : Nat → Bool} {i : Nat} (hi : i < n) (hD : D i = false) : 0 < todo n D :=
  List.countP_pos_iff.2 ⟨i, by simpa using hi, by simp [hD]⟩
theorem greedy_no {n : Nat} {M : Mat} (hM : ∀ a b, M a b = true → a < n ∧ b < n) : ∀ (f : Nat) (D : Nat → Bool) (out l : List Int), Closed M D → todo n D = f → greedy n M f D out = some l → ∀ k, D k = false → ¬ Way M k k
  | 0, D, out, l, hc, ht, _, k, hk, w => by
    have := todo_pos (w.fst hM) hk
    omega
  | f + 1, D, out, l, hc, ht, hg, k, hk, w => by
    rw [greedy] at hg
    cases hn : nextG n M D with
    | none => rw [hn] at hg; cases hg
    | some i =>
      rw [hn] at hg
      obtain ⟨h1, h2, _⟩ := nextG_some hn
      have hf := freeAt_iff.1 h2
      have ht2 := todo_set h1 hf.1
      by_cases hki : k = i
      · subst hki
        obtain ⟨c, h3, h4⟩ := w.last
        have h5 := hf.2 c (hM _ _ h3).1 h3
        rcases h4 with rfl | h4
        · rw [hk] at h5; cases h5
        · have := hc.way h4 h5; rw [hk] at this; cases this
      · refine greedy_no hM f (setD D i) _ l (hc.set hM h2) (by omega) hg k ?_ w
        simp [setD, hk, hki]
theorem free_ex {n : Nat} {M : Mat} (hM : ∀ a b, M a b = true → a < n ∧ b < n) (hr : ∀ k, ¬ Way M k k) (D : Nat → Bool) : ∀ (c i : Nat), (List.range n).countP (fun a => warsh n M a i) ≤ c → i < n → D i = false → ∃ j, j < n ∧ freeAt n M D j = true
  | c, i, hc, hi, hD => by
    by_cases hf : freeAt n M D i = true
    · exact ⟨i, hi, hf⟩
    · have : ∃ k, k < n ∧ M k i = true ∧ D k = false := by
        refine Decidable.byContradiction fun hne => hf (freeAt_iff.2 ⟨hD, fun k hk hm => ?_⟩)
        cases h : D k with
        | true => rfl
        | false => exact absurd ⟨k, hk, hm, h⟩ hne
      obtain ⟨k, hk, hm, hDk⟩ := this
      have hlt : (List.range n).countP (fun a => warsh n M a k) < (List.range n).countP (fun a => warsh n M a i) := by
        refine countP_lt (fun a _ ha => way_warsh hM ((warsh_way n a k ha).trans (.one hm))) ⟨k, by simpa using hk, way_warsh hM (.one hm), ?_⟩
        rw [Bool.eq_false_iff]
        exact fun h => hr k (warsh_way n k k h)
      cases c with
      | zero => omega
      | succ c => exact free_ex hM hr D c k (by omega) hk hDk
theorem greedy_some {n : Nat} {M : Mat} (hM : ∀ a b, M a b = true → a < n ∧ b < n) (hr : ∀ k, ¬ Way M k k) : ∀ (f : Nat) (D : Nat → Bool) (out : List Int), todo n D = f → ∃ l, greedy n M f D out = some l
  | 0, D, out, ht => ⟨out, rfl⟩
  | f + 1, D, out, ht => by
    rw [greedy]
    have hp : 0 < (List.range n).countP fun k => !D k := by
      have : todo n D = (List.range n).countP fun k => !D k := rfl
      omega
    obtain ⟨i, h1, h2⟩ := List.countP_pos_iff.1 hp
    obtain ⟨j, j1, j2⟩ := free_ex hM hr D _ i (Nat.le_refl _) (by simpa using h1) (by simpa using h2)
    cases hn : nextG n M D with
    | none => rw [nextG_none hn j j1] at j2; cases j2
    | some i =>
      obtain ⟨g1, g2, _⟩ := nextG_some hn
      have ht2 := todo_set g1 (freeAt_iff.1 g2).1
      exact greedy_some hM hr f (setD D i) _ (by omega)
theorem todo_none (n : Nat) : todo n (fun _ => false) = n := by
  simp [todo]
theorem line_ring {n : Nat} {M : Mat} (hM : ∀ a b, M a b = true → a < n ∧ b < n) : (lineG n M).isSome = !ringB n M := by
  cases hr : ringB n M with
  | false =>
    obtain ⟨l, hl⟩ := greedy_some hM ((ring_no hM).1 hr) n (fun _ => false) [] (todo_none n)
    simp [lineG, hl]
  | true =>
    obtain ⟨k, w⟩ := (ring_iff hM).1 hr
    cases hl : lineG n M with
    | none => rfl
    | some l => exact absurd w (greedy_no hM n (fun _ => false) [] l (fun _ _ _ h => by cases h) (todo_none n) hl k rfl)
end Go.Proofs.Ytncllkpekbapjaa
