/- The heap keeps what it has. -/
import Derived.Test.YtncllkpekbapjaaOk
namespace Go.Proofs.Ytncllkpekbapjaa
open Go Go.Abs Go.Proofs
set_option linter.unusedSimpArgs false
set_option linter.unusedVariables false
theorem getD_lt {l : List Int} {i : Nat} (h : i < l.length) : l.getD i 0 = l[i] := by simp [List.getD, h]
theorem swapL_perm {l : List Int} {i j : Nat} (hi : i < l.length) (hj : j < l.length) : (swapL l i j).Perm l := by
  unfold swapL
  rw [getD_lt hi, getD_lt hj]
  exact List.set_set_perm hi hj
theorem upF_perm : ∀ (f : Nat) (l : List Int) (j : Nat), j < l.length → (upF f l j).Perm l
  | 0, l, _, _ => List.Perm.refl l
  | f + 1, l, j, hj => by
    simp only [upF]
    split
    · exact List.Perm.refl l
    · split
      · exact (upF_perm f _ _ (by rw [swapL_len]; omega)).trans (swapL_perm (by omega) hj)
      · exact List.Perm.refl l
theorem downF_perm : ∀ (f : Nat) (l : List Int) (i n : Nat), i < l.length → n ≤ l.length → (downF f l i n).Perm l
  | 0, l, _, _, _, _ => List.Perm.refl l
  | f + 1, l, i, n, hi, hn => by
    simp only [downF]
    split
    · exact List.Perm.refl l
    · rename_i h
      have hj : downJ l i n < l.length := by
        unfold downJ
        split <;> omega
      split
      · exact (downF_perm f _ _ _ (by rw [swapL_len]; exact hj) (by rw [swapL_len]; exact hn)).trans (swapL_perm hi hj)
      · exact List.Perm.refl l
theorem pushS_perm (l : List Int) (k : Int) : (pushS l k).Perm (k :: l) := by
  unfold pushS
  exact (upF_perm _ _ _ (by simp)).trans (List.perm_append_singleton k l)
theorem sunk_perm {l : List Int} (h : 0 < l.length) : (sunk l).Perm l := by
  unfold sunk
  exact (downF_perm _ _ _ _ (by rw [swapL_len]; omega) (by rw [swapL_len]; omega)).trans (swapL_perm (by omega) (by omega))
theorem pop_perm {l : List Int} (h : 0 < l.length) : (popN l :: popL l).Perm l := by
  have hs := sunk_len l
  have e : popL l ++ [popN l] = sunk l := by
    unfold popL popN
    rw [getD_lt (by omega)]
    have := List.take_append_getElem (l := sunk l) (i := l.length - 1) (by omega)
    rw [this, List.take_of_length_le (by omega)]
  exact ((List.perm_append_singleton (popN l) (popL l)).symm.trans (by rw [e])).trans (sunk_perm h)
theorem pushS_len (l : List Int) (k : Int) : (pushS l k).length = l.length + 1 := (pushS_perm l k).length_eq
theorem popL_len {l : List Int} (h : 0 < l.length) : (popL l).length + 1 = l.length := (pop_perm h).length_eq
def Small (n : Nat) (l : List Int) : Prop := ∀ k ∈ l, 0 ≤ k ∧ k < (n : Int)
theorem Small.push {n : Nat} {l : List Int} (h : Small n l) {b : Nat} (hb : b < n) : Small n (pushS l (b : Int)) := by
  intro k hk
  rcases List.mem_cons.1 ((pushS_perm l b).mem_iff.1 hk) with rfl | h1
  · omega
  · exact h k h1
theorem Small.popN {n : Nat} {l : List Int} (h : Small n l) (h0 : 0 < l.length) : ∃ a : Nat, popN l = (a : Int) ∧ a < n := by
  obtain ⟨h1, h2⟩ := h _ ((pop_perm h0).mem_iff.1 (List.mem_cons_self ..))
  exact ⟨(Go.Proofs.Ytncllkpekbapjaa.popN l).toNat, by omega, by omega⟩
theorem Small.popL {n : Nat} {l : List Int} (h : Small n l) (h0 : 0 < l.length) : Small n (popL l) :=
  fun k hk => h k ((pop_perm h0).mem_iff.1 (List.mem_cons_of_mem _ hk))
def pos : Nat → (Nat → Int) → Nat
  | 0, _ => 0
  | n + 1, W => pos n W + if 0 < W n then 1 else 0
theorem pos_eq {n : Nat} {W W' : Nat → Int} (h : ∀ b, b < n → (0 < W b ↔ 0 < W' b)) : pos n W = pos n W' := by
  induction n with
  | zero => rfl
  | succ n ih =>
    have e := h n (Nat.lt_succ_self n)
    simp only [pos, ih fun b hb => h b (by omega)]
    by_cases h1 : 0 < W n
    · rw [if_pos h1, if_pos (e.1 h1)]
    · rw [if_neg h1, if_neg fun h2 => h1 (e.2 h2)]
def updW (W : Nat → Int) (b : Nat) (v : Int) : Nat → Int := fun y => if y = b then v else W y
theorem pos_drop {n : Nat} {W : Nat → Int} {b : Nat} (hb : b < n) (h : W b - 1 = 0) : pos n (updW W b (W b - 1)) + 1 = pos n W := by
  induction n with
  | zero => omega
  | succ n ih =>
    by_cases hbn : b = n
    · subst hbn
      simp only [pos]
      have e : pos b (updW W b (W b - 1)) = pos b W := pos_eq fun y hy => by simp [updW, Nat.ne_of_lt hy]
      rw [e, if_neg (by simp [updW]; omega), if_pos (by omega)]
    · have := ih (by omega)
      simp only [pos]
      have e : updW W b (W b - 1) n = W n := by simp [updW, Ne.symm hbn]
      rw [e]; omega
theorem pos_same {n : Nat} {W : Nat → Int} {b : Nat} (h : W b - 1 ≠ 0) : pos n (updW W b (W b - 1)) = pos n W :=
  pos_eq fun y hy => by
    simp only [updW]
    split
    · rename_i e; subst e; omega
    · exact Iff.rfl
end Go.Proofs.Ytncllkpekbapjaa
