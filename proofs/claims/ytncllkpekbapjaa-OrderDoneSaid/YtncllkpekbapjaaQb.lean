/- Done in its line, each reader sees what From says. -/
import Derived.Test.YtncllkpekbapjaaQa
namespace Go.Proofs.Ytncllkpekbapjaa
open Go Go.Abs Go.Proofs
set_option linter.unusedSimpArgs false
set_option linter.unusedVariables false
theorem nodup_sub : ∀ {l m : List Int}, l.Nodup → (∀ a ∈ l, a ∈ m) → l.length ≤ m.length
  | [], _, _, _ => by simp
  | a :: l, m, hn, hs => by
    rw [List.nodup_cons] at hn
    have ha := hs a List.mem_cons_self
    have h1 := nodup_sub (l := l) (m := m.erase a) hn.2 (fun b hb => (List.mem_erase_of_ne (fun e => hn.1 (by rw [← e]; exact hb))).2 (hs b (List.mem_cons_of_mem _ hb)))
    rw [List.length_erase_of_mem ha] at h1
    have := List.length_pos_of_mem ha
    simp only [List.length_cons]; omega
theorem posI_mem : ∀ {l : List Int} {k : Int} (i : Nat), k ∈ l → ∃ j : Nat, j < l.length ∧ posI l k i = i + j ∧ l.getD j 0 = k
  | a :: l, k, i, h => by
    rw [posI]
    by_cases hk : k = a
    · exact ⟨0, by simp, by rw [if_pos hk]; omega, by simp [hk]⟩
    · obtain ⟨j, h1, h2, h3⟩ := posI_mem (l := l) (i + 1) (by simpa [hk] using h)
      exact ⟨j + 1, by simp only [List.length_cons]; omega, by rw [if_neg hk, h2]; omega, by simpa using h3⟩
theorem posI_inj {l : List Int} {a b : Int} (ha : a ∈ l) (hb : b ∈ l) (h : posI l a 0 = posI l b 0) : a = b := by
  obtain ⟨j, _, h2, h3⟩ := posI_mem 0 ha
  obtain ⟨k, _, h5, h6⟩ := posI_mem 0 hb
  have : j = k := by omega
  rw [← h3, ← h6, this]
theorem countP_filter (x : Exec) : x.wrs = ((iota x.events.length).filter fun k => (x.ev k.toNat).wr).length := by
  have key : ∀ m, m ≤ x.events.length → (x.events.take m).countP Deed.wr = ((iota m).filter fun k => (x.ev k.toNat).wr).length := by
    intro m
    induction m with
    | zero => intro _; simp [iota]
    | succ m ih =>
      intro hm
      rw [wrs_take (by omega), ih (by omega)]
      simp only [iota, List.range_succ, List.map_append, List.filter_append, List.length_append, List.map_cons, List.map_nil, List.filter_cons, List.filter_nil, Int.toNat_natCast]
      split <;> rfl
  have := key x.events.length (Nat.le_refl _)
  rwa [List.take_length] at this
abbrev allF : Int → Nat → Nat → Bool := fun _ _ _ => true
end Go.Proofs.Ytncllkpekbapjaa
