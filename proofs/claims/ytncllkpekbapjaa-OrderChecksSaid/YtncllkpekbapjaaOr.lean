/- Fences between: tso is plain. One thread: coherent is plain. -/
import Derived.Test.YtncllkpekbapjaaOn
namespace Go.Proofs.Ytncllkpekbapjaa
open Go Go.Abs Go.Proofs
set_option linter.unusedSimpArgs false
set_option linter.unusedVariables false

/-- A way by arrows. -/
inductive Way (M : Mat) : Nat → Nat → Prop where
  | one {a b : Nat} (h : M a b = true) : Way M a b
  | more {a b c : Nat} (h : M a b = true) (w : Way M b c) : Way M a c
theorem Way.trans {M : Mat} {a b c : Nat} (h : Way M a b) (h2 : Way M b c) : Way M a c := by
  induction h with
  | one h => exact .more h h2
  | more h _ ih => exact .more h (ih h2)
theorem Way.lift {M M' : Mat} (hM : ∀ a b, M a b = true → Way M' a b) {a b : Nat} (h : Way M a b) : Way M' a b := by
  induction h with
  | one h => exact hM _ _ h
  | more h _ ih => exact (hM _ _ h).trans ih
theorem Way.lt {M : Mat} (hM : ∀ a b, M a b = true → a < b) {a b : Nat} (h : Way M a b) : a < b := by
  induction h with
  | one h => exact hM _ _ h
  | more h _ ih => exact Nat.lt_trans (hM _ _ h) ih
theorem warsh_way {M : Mat} : ∀ (n a b : Nat), warsh n M a b = true → Way M a b
  | 0, a, b, h => .one h
  | n + 1, a, b, h => by
    simp only [warsh, step1, Bool.or_eq_true, Bool.and_eq_true] at h
    rcases h with h | ⟨h1, h2⟩
    · exact warsh_way n a b h
    · exact (warsh_way n a n h1).trans (warsh_way n n b h2)
theorem warsh_up {M : Mat} {a b : Nat} (h : M a b = true) : ∀ n, warsh n M a b = true
  | 0 => h
  | n + 1 => by simp only [warsh, step1, warsh_up h n, Bool.true_or]
theorem warsh_trans {M : Mat} : ∀ (n a b c : Nat), c < n → warsh n M a c = true → warsh n M c b = true → warsh n M a b = true
  | 0, _, _, _, h, _, _ => by omega
  | n + 1, a, b, c, h, h1, h2 => by
    by_cases hc : c = n
    · subst hc
      rw [warsh_col] at h1
      rw [warsh_row] at h2
      simp only [warsh, step1, h1, h2, Bool.and_self, Bool.or_true]
    · have ih := warsh_trans (M := M) n
      simp only [warsh, step1, Bool.or_eq_true, Bool.and_eq_true] at h1 h2 ⊢
      rcases h1 with h1 | ⟨h1, h3⟩
      · rcases h2 with h2 | ⟨h2, h4⟩
        · exact .inl (ih _ _ c (by omega) h1 h2)
        · exact .inr ⟨ih _ _ c (by omega) h1 h2, h4⟩
      · rcases h2 with h2 | ⟨h2, h4⟩
        · exact .inr ⟨h1, ih _ _ c (by omega) h3 h2⟩
        · exact .inr ⟨h1, h4⟩
theorem way_warsh {M : Mat} {n : Nat} (hM : ∀ a b, M a b = true → a < n ∧ b < n) {a b : Nat} (h : Way M a b) : warsh n M a b = true := by
  induction h with
  | one h => exact warsh_up h n
  | more h _ ih => exact warsh_trans n _ _ _ (hM _ _ h).2 (warsh_up h n) ih
theorem Way.fst {M : Mat} {n : Nat} (hM : ∀ a b, M a b = true → a < n ∧ b < n) {a b : Nat} (h : Way M a b) : a < n := by
  cases h with
  | one h => exact (hM _ _ h).1
  | more h _ => exact (hM _ _ h).1
theorem ring_iff {M : Mat} {n : Nat} (hM : ∀ a b, M a b = true → a < n ∧ b < n) : ringB n M = true ↔ ∃ k, Way M k k := by
  simp only [ringB, List.any_eq_true, List.mem_range]
  exact ⟨fun ⟨k, _, h⟩ => ⟨k, warsh_way n k k h⟩, fun ⟨k, h⟩ => ⟨k, h.fst hM, way_warsh hM h⟩⟩
theorem ring_no {M : Mat} {n : Nat} (hM : ∀ a b, M a b = true → a < n ∧ b < n) : ringB n M = false ↔ ∀ k, ¬ Way M k k := by
  rw [Bool.eq_false_iff, ne_eq, ring_iff hM]
  exact ⟨fun h k w => h ⟨k, w⟩, fun h ⟨k, w⟩ => h k w⟩
theorem arr_lt {x : Exec} {cf : Int → Nat → Nat → Bool} (a b : Nat) (h : arrM x cf a b = true) : a < x.events.length ∧ b < x.events.length := by
  simp only [arrM, Bool.and_eq_true, decide_eq_true_eq] at h
  exact h.1
theorem arr_iff {x : Exec} {cf : Int → Nat → Nat → Bool} {a b : Nat} : arrM x cf a b = true ↔ (a < x.events.length ∧ b < x.events.length) ∧ a ≠ b ∧ ∃ k : Nat, k < 4 ∧ isB x k a b = true ∧ cf k a b = true := by
  simp only [arrM, arrK, Bool.and_eq_true, decide_eq_true_eq, List.any_eq_true, List.mem_range]

/-- How far a write is from a read behind it. -/
def scanF (x : Exec) (t : Int) : Nat → Nat → Bool
  | 0, _ => true
  | m + 1, k => if (x.ev k).thread ≠ t then scanF x t m (k + 1) else if (x.ev k).kind = 4 ∨ (x.ev k).kind = 3 then true else if (x.ev k).kind = 1 then false else scanF x t m (k + 1)
def fencF (x : Exec) : Nat → Nat → Bool
  | 0, _ => true
  | m + 1, i => if (x.ev i).kind ≠ 2 then fencF x m (i + 1) else if scanF x (x.ev i).thread (x.events.length - (i + 1)) (i + 1) = true then fencF x m (i + 1) else false
def fencB (x : Exec) : Bool := fencF x x.events.length 0
theorem scan_spec {x : Exec} {t : Int} : ∀ {m k b : Nat}, scanF x t m k = true → k ≤ b → b < k + m → (x.ev b).thread = t → (x.ev b).kind = 1 → ∃ j, k ≤ j ∧ j < b ∧ (x.ev j).thread = t ∧ ((x.ev j).kind = 4 ∨ (x.ev j).kind = 3)
  | 0, k, b, _, h1, h2, _, _ => by omega
  | m + 1, k, b, h, h1, h2, h3, h4 => by
    rw [scanF] at h
    by_cases ht : (x.ev k).thread ≠ t
    · rw [if_pos ht] at h
      have hkb : k ≠ b := fun e => ht (by rw [e]; exact h3)
      obtain ⟨j, j1, j2⟩ := scan_spec h (by omega) (by omega) h3 h4
      exact ⟨j, by omega, j2⟩
    · rw [if_neg ht] at h
      by_cases hf : (x.ev k).kind = 4 ∨ (x.ev k).kind = 3
      · have hkb : k ≠ b := fun e => by rw [e] at hf; omega
        exact ⟨k, Nat.le_refl _, by omega, Decidable.not_not.1 ht, hf⟩
      · rw [if_neg hf] at h
        by_cases hr : (x.ev k).kind = 1
        · rw [if_pos hr] at h; cases h
        · rw [if_neg hr] at h
          have hkb : k ≠ b := fun e => hr (by rw [e]; exact h4)
          obtain ⟨j, j1, j2⟩ := scan_spec h (by omega) (by omega) h3 h4
          exact ⟨j, by omega, j2⟩
theorem fenc_spec {x : Exec} : ∀ {m i a : Nat}, fencF x m i = true → i ≤ a → a < i + m → (x.ev a).kind = 2 → scanF x (x.ev a).thread (x.events.length - (a + 1)) (a + 1) = true
  | 0, i, a, _, h1, h2, _ => by omega
  | m + 1, i, a, h, h1, h2, h3 => by
    rw [fencF] at h
    by_cases hk : (x.ev i).kind ≠ 2
    · rw [if_pos hk] at h
      have : i ≠ a := fun e => hk (by rw [e]; exact h3)
      exact fenc_spec h (by omega) (by omega) h3
    · rw [if_neg hk] at h
      by_cases hs : scanF x (x.ev i).thread (x.events.length - (i + 1)) (i + 1) = true
      · rw [if_pos hs] at h
        by_cases hia : i = a
        · subst hia; exact hs
        · exact fenc_spec h (by omega) (by omega) h3
      · rw [if_neg hs] at h; cases h
theorem isB0 {x : Exec} {a b : Nat} : isB x 0 a b = true ↔ (x.ev a).thread = (x.ev b).thread ∧ a < b := by
  have e : isB x 0 a b = (decide ((x.ev a).thread = (x.ev b).thread) && decide (a < b)) := rfl
  rw [e]; simp only [Bool.and_eq_true, decide_eq_true_eq]
theorem isB1 {x : Exec} {a b : Nat} : isB x 1 a b = true ↔ (x.ev b).rd = true ∧ x.fr b = a := by
  have e : isB x 1 a b = ((x.ev b).rd && decide (x.fr b = a)) := rfl
  rw [e]; simp only [Bool.and_eq_true, decide_eq_true_eq]
theorem isB2 {x : Exec} {a b : Nat} : isB x 2 a b = true ↔ (((x.ev a).wr = true ∧ (x.ev b).wr = true) ∧ (x.ev a).thing = (x.ev b).thing) ∧ place x a < place x b := by
  have e : isB x 2 a b = ((x.ev a).wr && (x.ev b).wr && decide ((x.ev a).thing = (x.ev b).thing) && decide (place x a < place x b)) := rfl
  rw [e]; simp only [Bool.and_eq_true, decide_eq_true_eq]
theorem isB3 {x : Exec} {a b : Nat} : isB x 3 a b = true ↔ ((((x.ev a).rd = true ∧ (x.ev b).wr = true) ∧ (x.ev a).thing = (x.ev b).thing) ∧ a ≠ b) ∧ (x.fr a < 0 ∨ place x (x.fr a).toNat < place x b) := by
  have e : isB x 3 a b = ((x.ev a).rd && (x.ev b).wr && decide ((x.ev a).thing = (x.ev b).thing) && decide (a ≠ b) && (decide (x.fr a < 0) || decide (place x (x.fr a).toNat < place x b))) := rfl
  rw [e]; simp only [Bool.and_eq_true, Bool.or_eq_true, decide_eq_true_eq]
theorem coh0 {x : Exec} {a b : Nat} : cohF x 0 a b = true ↔ ((x.ev a).thing = (x.ev b).thing ∧ (x.ev a).kind ≠ 4) ∧ (x.ev b).kind ≠ 4 := by
  have e : cohF x 0 a b = (false || (decide ((x.ev a).thing = (x.ev b).thing) && decide ((x.ev a).kind ≠ 4) && decide ((x.ev b).kind ≠ 4))) := rfl
  rw [e, Bool.false_or]; simp only [Bool.and_eq_true, decide_eq_true_eq]
theorem tso0 {x : Exec} {a b : Nat} : tsoF x 0 a b = true ↔ (x.ev a).kind ≠ 2 ∨ (x.ev b).kind ≠ 1 := by
  have e : tsoF x 0 a b = (decide ((x.ev a).kind ≠ 2) || decide ((x.ev b).kind ≠ 1)) := rfl
  rw [e]; simp only [Bool.or_eq_true, decide_eq_true_eq]
theorem tso1 {x : Exec} {a b : Nat} : tsoF x 1 a b = true ↔ (x.ev a).thread ≠ (x.ev b).thread := by
  have e : tsoF x 1 a b = decide ((x.ev a).thread ≠ (x.ev b).thread) := rfl
  rw [e, decide_eq_true_eq]
/-- What is seen stands for the same thing, and was written. -/
theorem from_of {x : Exec} (h : Fine x) {a b : Nat} (hb : b < x.events.length) (hi : isB x 1 a b = true) : a < x.events.length ∧ a ≠ b ∧ (x.ev a).wr = true ∧ (x.ev b).rd = true ∧ (x.ev a).thing = (x.ev b).thing := by
  obtain ⟨h1, h2⟩ := isB1.1 hi
  obtain ⟨g1, g2, g3, g4, g5, _⟩ := h.from hb h1 (by omega)
  have e : (x.fr b).toNat = a := by omega
  rw [e] at g4 g5
  exact ⟨by omega, by omega, g4, h1, g5⟩
/-- What goes from one thing to the same, back in one thread: not coherent. -/
theorem no_back {x : Exec} (hc : ringB x.events.length (arrM x (cohF x)) = false) {k a b : Nat} (hk : k < 4) (hk0 : k ≠ 0) (ha : a < x.events.length) (hb : b < x.events.length) (hi : isB x k a b = true) (ht : (x.ev a).thread = (x.ev b).thread) (hth : (x.ev a).thing = (x.ev b).thing)
    (h4 : (x.ev a).kind ≠ 4) (h5 : (x.ev b).kind ≠ 4) (hne : a ≠ b) : a < b := by
  rcases Nat.lt_or_ge a b with h | h
  · exact h
  · exfalso
    have h1 : arrM x (cohF x) a b = true := arr_iff.2 ⟨⟨ha, hb⟩, hne, k, hk, hi, by simp only [cohF, Bool.or_eq_true, decide_eq_true_eq]; left; omega⟩
    have h2 : arrM x (cohF x) b a = true := arr_iff.2 ⟨⟨hb, ha⟩, Ne.symm hne, 0, by omega, isB0.2 ⟨ht.symm, by omega⟩, coh0.2 ⟨⟨hth.symm, h5⟩, h4⟩⟩
    exact (ring_no arr_lt).1 hc a (.more h1 (.one h2))
theorem kind_rd {d : Deed} (h : d.rd = true) : d.kind ≠ 4 := by have := rd_kind.1 h; omega
theorem kind_wr {d : Deed} (h : d.wr = true) : d.kind ≠ 4 := by have := wr_kind.1 h; omega
theorem way_prog {x : Exec} (hf : fencB x = true) {a b : Nat} (ha : a < x.events.length) (hb : b < x.events.length) (ht : (x.ev a).thread = (x.ev b).thread) (hab : a < b) : Way (arrM x (tsoF x)) a b := by
  have step : ∀ a b, a < x.events.length → b < x.events.length → (x.ev a).thread = (x.ev b).thread → a < b → ((x.ev a).kind ≠ 2 ∨ (x.ev b).kind ≠ 1) → Way (arrM x (tsoF x)) a b := fun a b ha hb ht hab hk =>
    .one (arr_iff.2 ⟨⟨ha, hb⟩, by omega, 0, by omega, isB0.2 ⟨ht, hab⟩, tso0.2 hk⟩)
  by_cases hk : (x.ev a).kind ≠ 2 ∨ (x.ev b).kind ≠ 1
  · exact step a b ha hb ht hab hk
  · have h2 : (x.ev a).kind = 2 := Decidable.not_not.1 fun h => hk (.inl h)
    have h1 : (x.ev b).kind = 1 := Decidable.not_not.1 fun h => hk (.inr h)
    have hs := fenc_spec (i := 0) hf (Nat.zero_le a) (by omega) h2
    obtain ⟨j, j1, j2, j3, j4⟩ := scan_spec hs (by omega) (by omega) ht.symm h1
    exact (step a j ha (by omega) j3.symm (by omega) (.inr (by omega))).trans (step j b (by omega) hb (by rw [j3, ht]) j2 (.inl (by omega)))
theorem plain_of_tso {x : Exec} (hx : x.Wf) (hf : fencB x = true) (ht : tsoB x = true) : plainB x = true := by
  simp only [tsoB, cohB, Bool.and_eq_true, Bool.not_eq_true'] at ht
  obtain ⟨hok, ⟨_, hc⟩, hr⟩ := ht
  have h := fine_of hx hok
  simp only [plainB, Bool.and_eq_true, Bool.not_eq_true']
  refine ⟨hok, (ring_no arr_lt).2 fun k w => (ring_no arr_lt).1 hr k (w.lift ?_)⟩
  intro a b hab
  obtain ⟨⟨ha, hb⟩, hne, k, hk, hi, _⟩ := arr_iff.1 hab
  by_cases h0 : k = 0
  · subst h0
    have hi2 : (x.ev a).thread = (x.ev b).thread ∧ a < b := isB0.1 hi
    exact way_prog hf ha hb hi2.1 hi2.2
  · by_cases h1 : k = 1
    · subst h1
      obtain ⟨_, _, g1, g2, g3⟩ := from_of h hb hi
      by_cases hth : (x.ev a).thread = (x.ev b).thread
      · exact way_prog hf ha hb hth (no_back hc hk (by omega) ha hb hi hth g3 (kind_wr g1) (kind_rd g2) hne)
      · exact .one (arr_iff.2 ⟨⟨ha, hb⟩, hne, 1, hk, hi, tso1.2 hth⟩)
    · exact .one (arr_iff.2 ⟨⟨ha, hb⟩, hne, k, hk, hi, by simp only [tsoF]; rw [if_neg (by omega), if_neg (by omega)]⟩)
def OneT (x : Exec) : Prop := ∀ j, j < x.events.length → (x.ev j).thread = (x.ev 0).thread
theorem isB_same {x : Exec} (h : Fine x) {k a b : Nat} (hk : k < 4) (hk0 : k ≠ 0) (hb : b < x.events.length) (hi : isB x k a b = true) : (x.ev a).thing = (x.ev b).thing ∧ (x.ev a).kind ≠ 4 ∧ (x.ev b).kind ≠ 4 := by
  by_cases h1 : k = 1
  · subst h1
    obtain ⟨_, _, g1, g2, g3⟩ := from_of h hb hi
    exact ⟨g3, kind_wr g1, kind_rd g2⟩
  · by_cases h2 : k = 2
    · subst h2
      have := isB2.1 hi
      exact ⟨this.1.2, kind_wr this.1.1.1, kind_wr this.1.1.2⟩
    · have h3 : k = 3 := by omega
      subst h3
      have := isB3.1 hi
      exact ⟨this.1.1.2, kind_rd this.1.1.1.1, kind_wr this.1.1.1.2⟩
theorem plain_of_coh {x : Exec} (hx : x.Wf) (ho : OneT x) (hc : cohB x = true) : plainB x = true := by
  simp only [cohB, Bool.and_eq_true, Bool.not_eq_true'] at hc
  obtain ⟨hok, hc⟩ := hc
  have h := fine_of hx hok
  simp only [plainB, Bool.and_eq_true, Bool.not_eq_true']
  refine ⟨hok, (ring_no arr_lt).2 fun k w => ?_⟩
  refine Nat.lt_irrefl k (w.lt fun a b hab => ?_)
  obtain ⟨⟨ha, hb⟩, hne, j, hj, hi, _⟩ := arr_iff.1 hab
  by_cases h0 : j = 0
  · subst h0
    have hi2 : (x.ev a).thread = (x.ev b).thread ∧ a < b := isB0.1 hi
    exact hi2.2
  · obtain ⟨g1, g2, g3⟩ := isB_same h hj h0 hb hi
    exact no_back hc hj h0 ha hb hi (by rw [ho a ha, ho b hb]) g1 g2 g3 hne
end Go.Proofs.Ytncllkpekbapjaa
