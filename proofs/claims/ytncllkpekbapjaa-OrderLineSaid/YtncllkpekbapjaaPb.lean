/- The line with a heap is the greedy one. -/
import Derived.Test.YtncllkpekbapjaaPa
namespace Go.Proofs.Ytncllkpekbapjaa
open Go Go.Abs Go.Proofs
set_option linter.unusedSimpArgs false
set_option linter.unusedVariables false
def preds (n : Nat) (M : Mat) (D : Nat → Bool) (b : Nat) : Nat := (List.range n).countP fun k => M k b && !D k
theorem preds_zero {n : Nat} {M : Mat} {D : Nat → Bool} {b : Nat} : preds n M D b = 0 ↔ ∀ k, k < n → M k b = true → D k = true := by
  unfold preds
  rw [List.countP_eq_zero]
  simp only [List.mem_range, Bool.and_eq_true, Bool.not_eq_true', not_and, Bool.not_eq_false]
theorem preds_set {n : Nat} {M : Mat} {D : Nat → Bool} {a b : Nat} (ha : a < n) (hD : D a = false) : preds n M (setD D a) b + (if M a b = true then 1 else 0) = preds n M D b := by
  have key : ∀ m, (List.range m).countP (fun k => M k b && !setD D a k) + (if a < m then (if M a b = true then 1 else 0) else 0) = (List.range m).countP fun k => M k b && !D k := by
    intro m
    induction m with
    | zero => simp
    | succ m ih =>
      rw [List.range_succ, List.countP_append, List.countP_append]
      simp only [List.countP_cons, List.countP_nil]
      by_cases ham : a = m
      · subst ham
        have h1 : ¬ a < a := by omega
        have h2 : a < a + 1 := by omega
        have h3 : setD D a a = true := by simp [setD]
        simp only [h1, h2, if_false, if_true, h3, hD, Bool.not_true, Bool.not_false, Bool.and_false, Bool.and_true, Bool.false_eq_true] at ih ⊢
        omega
      · have e : setD D a m = D m := by simp [setD, Ne.symm ham]
        rw [e]
        generalize (if (M m b && !D m) = true then 1 else 0) = z
        by_cases hlt : a < m
        · have h2 : a < m + 1 := by omega
          simp only [hlt, h2, if_true] at ih ⊢; omega
        · have h2 : ¬ a < m + 1 := by omega
          simp only [hlt, h2, if_false] at ih ⊢; omega
  have := key n
  rw [if_pos ha] at this
  exact this
theorem inN_preds (n : Nat) (M : Mat) (b : Nat) : inN M n b = preds n M (fun _ => false) b := by
  unfold preds
  have e : inN M n b = (((List.range n).filter fun k => M k b).length : Nat) := by delta inN; rfl
  rw [e, List.countP_eq_length_filter]
  simp
theorem relax_spec {M : Mat} {a : Nat} : ∀ (m b : Nat) (W : Nat → Int) (h : List Int), IsHeap h h.length →
    IsHeap (relax M a m b W h).2 (relax M a m b W h).2.length ∧ (∀ y, (relax M a m b W h).1 y = W y - if b ≤ y ∧ y < b + m ∧ M a y = true then 1 else 0) ∧
    (∀ x, x ∈ (relax M a m b W h).2 ↔ x ∈ h ∨ ∃ y : Nat, x = y ∧ b ≤ y ∧ y < b + m ∧ M a y = true ∧ W y = 1) ∧
    (h.Nodup → (∀ y : Nat, b ≤ y → W y = 1 → (y : Int) ∉ h) → (relax M a m b W h).2.Nodup)
  | 0, b, W, h, hh => by
    refine ⟨hh, fun y => ?_, fun x => ⟨fun hx => .inl hx, ?_⟩, fun hn _ => hn⟩
    · rw [relax, if_neg (by omega), Int.sub_zero]
    · rintro (hx | ⟨y, _, h1, h2, _⟩)
      · exact hx
      · omega
  | m + 1, b, W, h, hh => by
    rw [relax]
    cases hM : M a b with
    | false =>
      rw [if_neg (by decide)]
      obtain ⟨i1, i2, i3, i4⟩ := relax_spec (M := M) (a := a) m (b + 1) W h hh
      refine ⟨i1, fun y => ?_, fun x => ?_, fun hn hf => i4 hn fun y hy => hf y (by omega)⟩
      · rw [i2 y]
        by_cases hyb : y = b
        · subst hyb; rw [if_neg (by omega), if_neg (by rw [hM]; simp)]
        · by_cases hc : b + 1 ≤ y ∧ y < b + 1 + m ∧ M a y = true
          · rw [if_pos hc, if_pos ⟨by omega, by omega, hc.2.2⟩]
          · rw [if_neg hc, if_neg fun h => hc ⟨by omega, by omega, h.2.2⟩]
      · rw [i3 x]
        refine or_congr_right ⟨?_, ?_⟩
        · rintro ⟨y, h1, h2, h3, h4⟩; exact ⟨y, h1, by omega, by omega, h4⟩
        · rintro ⟨y, h1, h2, h3, h4⟩
          have : y ≠ b := fun e => by rw [e, hM] at h4; cases h4.1
          exact ⟨y, h1, by omega, by omega, h4⟩
    | true =>
      rw [if_pos rfl]
      have hW : ∀ y, y ≠ b → updW W b (W b - 1) y = W y := fun y hy => by simp [updW, hy]
      have hWb : updW W b (W b - 1) b = W b - 1 := by simp [updW]
      have hh2 : IsHeap (if W b - 1 = 0 then pushS h (b : Int) else h) (if W b - 1 = 0 then pushS h (b : Int) else h).length := by
        split
        · exact pushS_heap hh
        · exact hh
      have hmem : ∀ x, x ∈ (if W b - 1 = 0 then pushS h (b : Int) else h) ↔ x ∈ h ∨ (x = b ∧ W b = 1) := fun x => by
        split
        · rw [(pushS_perm h b).mem_iff, List.mem_cons]
          constructor
          · rintro (h1 | h1)
            · exact .inr ⟨h1, by omega⟩
            · exact .inl h1
          · rintro (h1 | h1)
            · exact .inr h1
            · exact .inl h1.1
        · exact ⟨fun h => .inl h, fun h => h.elim id fun h => by omega⟩
      obtain ⟨i1, i2, i3, i4⟩ := relax_spec (M := M) (a := a) m (b + 1) (updW W b (W b - 1)) _ hh2
      refine ⟨i1, fun y => ?_, fun x => ?_, fun hn hf => i4 ?_ fun y hy hy1 hyh => ?_⟩
      · rw [i2 y]
        by_cases hyb : y = b
        · subst hyb; rw [if_neg (by omega), if_pos ⟨by omega, by omega, hM⟩, hWb]; omega
        · rw [hW y hyb]
          by_cases hc : b + 1 ≤ y ∧ y < b + 1 + m ∧ M a y = true
          · rw [if_pos hc, if_pos ⟨by omega, by omega, hc.2.2⟩]
          · rw [if_neg hc, if_neg fun h => hc ⟨by omega, by omega, h.2.2⟩]
      · rw [i3 x, hmem x, or_assoc]
        refine or_congr_right ⟨?_, ?_⟩
        · rintro (⟨h1, h2⟩ | ⟨y, h1, h2, h3, h4, h5⟩)
          · exact ⟨b, h1, by omega, by omega, hM, h2⟩
          · rw [hW y (by omega)] at h5
            exact ⟨y, h1, by omega, by omega, h4, h5⟩
        · rintro ⟨y, h1, h2, h3, h4, h5⟩
          by_cases hyb : y = b
          · subst hyb; exact .inl ⟨h1, h5⟩
          · exact .inr ⟨y, h1, by omega, by omega, h4, by rw [hW y hyb]; exact h5⟩
      · split
        · rw [(pushS_perm h b).nodup_iff, List.nodup_cons]
          exact ⟨hf b (Nat.le_refl _) (by omega), hn⟩
        · exact hn
      · rw [hW y (by omega)] at hy1
        rcases (hmem _).1 hyh with h1 | ⟨h1, _⟩
        · exact hf y (by omega) hy1 h1
        · omega
theorem newS_spec {n : Nat} {W : Nat → Int} : ∀ k, IsHeap (newS n W k) (newS n W k).length ∧ (∀ x, x ∈ newS n W k ↔ ∃ y : Nat, x = y ∧ y < k ∧ W y = 0) ∧ (newS n W k).Nodup
  | 0 => ⟨fun c hc hcn => by simp [newS] at hcn, fun x => by simp [newS], by simp [newS]⟩
  | k + 1 => by
    obtain ⟨i1, i2, i3⟩ := newS_spec (n := n) (W := W) k
    rw [newS]
    by_cases hk : W k = 0
    · rw [if_pos hk]
      refine ⟨pushS_heap i1, fun x => ?_, ?_⟩
      · rw [(pushS_perm _ _).mem_iff, List.mem_cons, i2]
        constructor
        · rintro (h | ⟨y, h1, h2, h3⟩)
          · exact ⟨k, h, by omega, hk⟩
          · exact ⟨y, h1, by omega, h3⟩
        · rintro ⟨y, h1, h2, h3⟩
          by_cases hyk : y = k
          · subst hyk; exact .inl h1
          · exact .inr ⟨y, h1, by omega, h3⟩
      · rw [(pushS_perm _ _).nodup_iff, List.nodup_cons, i2]
        refine ⟨?_, i3⟩
        rintro ⟨y, h1, h2, _⟩
        omega
    · rw [if_neg hk]
      refine ⟨i1, fun x => ?_, i3⟩
      rw [i2]
      constructor
      · rintro ⟨y, h1, h2, h3⟩; exact ⟨y, h1, by omega, h3⟩
      · rintro ⟨y, h1, h2, h3⟩
        have : y ≠ k := fun e => hk (by rw [← e]; exact h3)
        exact ⟨y, h1, by omega, h3⟩
theorem nextG_of_none0 {n : Nat} {M : Mat} {D : Nat → Bool} (hl : ∀ j, j < n → freeAt n M D j = false) : nextG n M D = none := by
  cases hn : nextG n M D with
  | none => rfl
  | some j =>
    obtain ⟨h1, h2, _⟩ := nextG_some hn
    rw [hl j h1] at h2; cases h2
theorem kahn_greedy {n : Nat} {M : Mat} (hM : ∀ a b, M a b = true → a < n ∧ b < n) (hne : ∀ a, M a a = false) : ∀ (f : Nat) (D : Nat → Bool) (W : Nat → Int) (h out : List Int),
    todo n D < f → Closed M D → (∀ b, b < n → W b = preds n M D b) → IsHeap h h.length → h.Nodup → (∀ x, x ∈ h ↔ ∃ y : Nat, x = y ∧ y < n ∧ D y = false ∧ W y = 0) → out.length + todo n D = n →
    (greedy n M (todo n D) D out = some (kahn n M f W h out) ∧ (kahn n M f W h out).length = n) ∨ (greedy n M (todo n D) D out = none ∧ (kahn n M f W h out).length < n)
  | 0, _, _, _, _, hf, _, _, _, _, _, _ => by omega
  | f + 1, D, W, h, out, hf, hc, hW, hh, hnd, hm, hol => by
    rw [kahn]
    have hfree : ∀ y, y < n → (freeAt n M D y = true ↔ (y : Int) ∈ h) := fun y hy => by
      rw [freeAt_iff, hm]
      constructor
      · rintro ⟨h1, h2⟩
        exact ⟨y, rfl, hy, h1, by rw [hW y hy, preds_zero.2 h2]; rfl⟩
      · rintro ⟨z, h1, h2, h3, h4⟩
        have : z = y := by omega
        subst this
        refine ⟨h3, preds_zero.1 ?_⟩
        rw [hW z hy] at h4; omega
    by_cases h0 : h = []
    · rw [if_pos h0]
      have hno : ∀ y, y < n → freeAt n M D y = false := fun y hy => by
        rw [Bool.eq_false_iff]
        intro hfr
        have := (hfree y hy).1 hfr
        rw [h0] at this; simp at this
      cases ht : todo n D with
      | zero => exact .inl ⟨rfl, by omega⟩
      | succ t =>
        refine .inr ⟨?_, by omega⟩
        rw [greedy, nextG_of_none0 hno]
    · rw [if_neg h0]
      have hpos : 0 < h.length := List.length_pos_iff.2 h0
      have hp := pop_perm hpos
      have hin : popN h ∈ h := hp.mem_iff.1 (List.mem_cons_self ..)
      obtain ⟨a, ea, han, hDa, hWa⟩ := (hm _).1 hin
      have hnx : nextG n M D = some a := by
        have hfa := (hfree a han).2 (ea ▸ hin)
        cases hn : nextG n M D with
        | none => rw [nextG_none hn a han] at hfa; cases hfa
        | some j =>
          obtain ⟨g1, g2, g3⟩ := nextG_some hn
          have hle := popN_least hh hpos _ ((hfree j g1).1 g2)
          rcases Nat.lt_trichotomy a j with h4 | h4 | h4
          · rw [g3 a h4] at hfa; cases hfa
          · rw [h4]
          · omega
      have hfa : freeAt n M D a = true := (nextG_some hnx).2.1
      have ht := todo_set han hDa
      rw [← ht, greedy, hnx]
      simp only
      have e1 : (popN h).toNat = a := by omega
      rw [e1, ea]
      have hnd2 := hp.nodup_iff.2 hnd
      rw [List.nodup_cons] at hnd2
      obtain ⟨r1, r2, r3, r4⟩ := relax_spec (M := M) (a := a) n 0 W (popL h) (popL_heap hh hpos)
      have hWr : ∀ b, b < n → (relax M a n 0 W (popL h)).1 b = preds n M (setD D a) b := fun b hb => by
        have := preds_set (M := M) (b := b) han hDa
        rw [r2 b, hW b hb]
        by_cases hMab : M a b = true
        · rw [if_pos ⟨by omega, by omega, hMab⟩]
          rw [if_pos hMab] at this; omega
        · rw [if_neg fun h => hMab h.2.2]
          rw [if_neg hMab] at this; omega
      have hpopm : ∀ x, x ∈ popL h ↔ x ∈ h ∧ x ≠ popN h := fun x => by
        constructor
        · intro hx
          exact ⟨hp.mem_iff.1 (List.mem_cons_of_mem _ hx), fun e => hnd2.1 (e ▸ hx)⟩
        · rintro ⟨h1, h2⟩
          rcases List.mem_cons.1 (hp.mem_iff.2 h1) with h3 | h3
          · exact absurd h3 h2
          · exact h3
      refine kahn_greedy hM hne f (setD D a) _ _ _ (by omega) (hc.set hM hfa) hWr r1 (r4 hnd2.2 fun y _ hy hyh => ?_) (fun x => ?_) (by simp; omega)
      · obtain ⟨z, z1, z2, z3, z4⟩ := (hm _).1 ((hpopm _).1 hyh).1
        have : z = y := by omega
        subst this; omega
      · rw [r3, hpopm, hm]
        constructor
        · rintro (⟨⟨y, y1, y2, y3, y4⟩, hne2⟩ | ⟨y, y1, _, y2, y3, y4⟩)
          · have hya : y ≠ a := fun e => hne2 (by rw [y1, e, ea])
            have hMay : ¬ M a y = true := fun hmy => by
              have := (preds_zero (n := n) (M := M) (D := D) (b := y)).1 (by rw [hW y y2] at y4; omega) a han hmy
              rw [hDa] at this; cases this
            refine ⟨y, y1, y2, by simp [setD, y3, hya], ?_⟩
            rw [r2, if_neg fun h => hMay h.2.2]; omega
          · have hya : y ≠ a := fun e => by rw [e, hne] at y3; cases y3
            have hyn : y < n := by omega
            have hDy : D y = false := by
              cases hd : D y with
              | false => rfl
              | true => have := hc a y y3 hd; rw [hDa] at this; cases this
            refine ⟨y, y1, hyn, by simp [setD, hDy, hya], ?_⟩
            rw [r2, if_pos ⟨by omega, by omega, y3⟩]; omega
        · rintro ⟨y, y1, y2, y3, y4⟩
          simp only [setD, Bool.or_eq_false_iff, decide_eq_false_iff_not] at y3
          rw [r2] at y4
          by_cases hMay : M a y = true
          · rw [if_pos ⟨by omega, by omega, hMay⟩] at y4
            exact .inr ⟨y, y1, by omega, by omega, hMay, by omega⟩
          · rw [if_neg fun h => hMay h.2.2] at y4
            exact .inl ⟨⟨y, y1, y2, y3.1, by omega⟩, fun e => y3.2 (by omega)⟩
theorem lineO_greedy {x : Exec} : (lineG x.events.length (arrM x fun _ _ _ => true) = some (lineO x) ∧ (lineO x).length = x.events.length) ∨ (lineG x.events.length (arrM x fun _ _ _ => true) = none ∧ (lineO x).length < x.events.length) := by
  obtain ⟨s1, s2, s3⟩ := newS_spec (n := x.events.length) (W := inN (arrM x fun _ _ _ => true) x.events.length) x.events.length
  have := kahn_greedy (n := x.events.length) (M := arrM x fun _ _ _ => true) arr_lt (fun a => by simp [arrM, arrK]) (x.events.length + 1) (fun _ => false) (inN (arrM x fun _ _ _ => true) x.events.length) _ [] (by rw [todo_none]; omega) (fun _ _ _ h => by cases h) (fun b _ => inN_preds _ _ b) s1 s3 (fun y => by
    rw [s2]
    constructor
    · rintro ⟨z, z1, z2, z3⟩; exact ⟨z, z1, z2, rfl, z3⟩
    · rintro ⟨z, z1, z2, _, z3⟩; exact ⟨z, z1, z2, z3⟩) (by rw [todo_none]; simp)
  rw [todo_none] at this
  exact this
theorem lineB_eq {x : Exec} : lineB x = plainB x := by
  unfold lineB plainB
  congr 1
  have h := line_ring (n := x.events.length) (M := arrM x fun _ _ _ => true) arr_lt
  rcases lineO_greedy (x := x) with ⟨h1, h2⟩ | ⟨h1, h2⟩
  · rw [h1] at h
    rw [← h, h2]; simp
  · rw [h1] at h
    rw [← h]
    simp; omega
theorem lineL_eq {x : Exec} : lineL x = if okB x = true then (lineG x.events.length (arrM x fun _ _ _ => true)).getD [] else [] := by
  unfold lineL lineB
  rcases lineO_greedy (x := x) with ⟨h1, h2⟩ | ⟨h1, h2⟩
  · rw [h1, h2]; cases okB x <;> simp
  · rw [h1]
    rw [if_neg (by simp; intro; omega)]
    cases okB x <;> rfl
end Go.Proofs.Ytncllkpekbapjaa
