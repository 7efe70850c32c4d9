/- A fork of a machine. -/
import Derived.Test.YtliabecchkolgaaGreatVu
namespace Go.Proofs.YtliabecchkolgaaGreat
open Go Go.Abs Go.Proofs
set_option linter.unusedSimpArgs false
set_option linter.unusedVariables false
/-- Two machines that share no row. -/
def Far (A B : Lay) : Prop := ∀ b ∈ A.ids, b ∉ B.ids
theorem Far.symm {A B : Lay} (h : Far A B) : Far B A := fun b hb hm => h b hm hb
theorem Far.moves {A A' B : Lay} {n : Nat} (h : Far A B) (hm : ∀ b, b ∈ A'.ids → b ∈ A.ids ∨ n ≤ b) (hl : ∀ b ∈ B.ids, b < n) : Far A' B := fun b hb hB => (hm b hb).elim (fun h1 => h b h1 hB) (fun h1 => by have := hl b hB; omega)
theorem MAt.beside {o : Obj} {s : Mach} {A B : Lay} {H H' : Hp} {n n' : Nat} (h : MAt o s B H n) (hf : Far A B) (hfr : ∀ b, b < n → b ∉ A.ids → getH H' b = getH H b) (hn : n ≤ n') : MAt o s B H' n' := h.keepIds (fun b hb => hfr b (h.lt b hb) (fun ha => hf b ha hb)) hn
abbrev mixed (s : Mach) (B : List Nat) : List AV := List.zipWith CoreS.av s.cores B
theorem mixed_len {s : Mach} {B : List Nat} (h : B.length = s.cores.length) : (mixed s B).length = s.cores.length := by simp [mixed, h]
theorem mixed_at {s : Mach} {B : List Nat} (h : B.length = s.cores.length) {q : Nat} (hq : q < s.cores.length) (d : AV) : (mixed s B).getD q d = (s.core q).av (B.getD q 0) := by
  have h2 : q < B.length := by rw [h]; exact hq
  have h3 : q < (mixed s B).length := by rw [mixed_len h]; exact hq
  rw [List.getD, List.getElem?_eq_getElem h3]
  simp [mixed, List.getD, hq, h2]
theorem mixed_set {s : Mach} {B : List Nat} {q : Nat} (h : B.length = s.cores.length) (hq : q < s.cores.length) (b : Nat) : mixed s (B.set q b) = (mixed s B).set q ((s.core q).av b) := by
  apply List.ext_getElem
  · simp [mixed]
  · intro i h1 h2
    simp only [mixed, List.getElem_zipWith, List.getElem_set]
    by_cases he : q = i
    · subst he; simp [List.getD, hq]
    · simp [he]
structure Mixed (L : Lay) (s : Mach) (H : Hp) (B : List Nat) (i lo n : Nat) : Prop where
  len : B.length = s.cores.length
  old : ∀ j, i ≤ j → j < s.cores.length → B.getD j 0 = L.bufs.getD j 0
  new : ∀ j, j < i → j < s.cores.length → lo ≤ B.getD j 0 ∧ B.getD j 0 < n ∧ ∃ d, getH H (B.getD j 0) = some (.row 97 3 d ((s.core j).buf.map StoreS.av))
  apart : ∀ j k, j < k → k < i → k < s.cores.length → B.getD j 0 ≠ B.getD k 0
theorem Mixed.next {L : Lay} {s : Mach} {H H' : Hp} {B : List Nat} {i lo n n' b : Nat} (h : Mixed L s H B i lo n) (hi : i < s.cores.length) (hb : n ≤ b ∧ b < n') (hlo : lo ≤ n) (hr : ∃ d, getH H' b = some (.row 97 3 d ((s.core i).buf.map StoreS.av))) (hf : ∀ x, lo ≤ x → x < n → getH H' x = getH H x) : Mixed L s H' (B.set i b) (i + 1) lo n' := by
  have hib : i < B.length := by rw [h.len]; exact hi
  have same : (B.set i b).getD i 0 = b := by simp [List.getD, hib]
  have ne : ∀ j, j ≠ i → (B.set i b).getD j 0 = B.getD j 0 := fun j hj => by simp [List.getD, List.getElem?_set_ne (Ne.symm hj)]
  refine ⟨by rw [List.length_set]; exact h.len, fun j h1 h2 => by rw [ne j (by omega)]; exact h.old j (by omega) h2, fun j h1 h2 => ?_, fun j k h1 h2 h3 => ?_⟩
  · by_cases hj : j = i
    · subst hj; rw [same]; exact ⟨by omega, by omega, hr⟩
    · obtain ⟨g1, g2, d, g3⟩ := h.new j (by omega) h2
      rw [ne j hj]
      exact ⟨g1, by omega, d, (hf _ g1 g2).trans g3⟩
  · by_cases hk : k = i
    · subst hk
      rw [same, ne j (by omega)]
      have := (h.new j (by omega) (by omega)).2.1
      omega
    · rw [ne k hk, ne j (by omega)]
      exact h.apart j k h1 (by omega) h3
theorem Mixed.keep {L : Lay} {s : Mach} {H H' : Hp} {B : List Nat} {i lo n n' : Nat} (h : Mixed L s H B i lo n) (hn : n ≤ n') (hf : ∀ x, lo ≤ x → x < n → getH H' x = getH H x) : Mixed L s H' B i lo n' :=
  ⟨h.len, h.old, fun j h1 h2 => by obtain ⟨g1, g2, d, g3⟩ := h.new j h1 h2; exact ⟨g1, by omega, d, (hf _ g1 g2).trans g3⟩, h.apart⟩
theorem Mixed.mem {L : Lay} {s : Mach} {H : Hp} {B : List Nat} {i lo n : Nat} (h : Mixed L s H B i lo n) (hi : s.cores.length ≤ i) {b : Nat} (hb : b ∈ B) : lo ≤ b ∧ b < n := by
  obtain ⟨j, hj, rfl⟩ := List.mem_iff_getElem.1 hb
  have hj2 : j < s.cores.length := by rw [← h.len]; exact hj
  obtain ⟨g1, g2, _⟩ := h.new j (by omega) hj2
  have e : B.getD j 0 = B[j] := by simp [List.getD, hj]
  rw [e] at g1 g2
  exact ⟨g1, g2⟩
theorem Mixed.nodup {L : Lay} {s : Mach} {H : Hp} {B : List Nat} {i lo n : Nat} (h : Mixed L s H B i lo n) (hi : s.cores.length ≤ i) : B.Nodup := by
  refine List.pairwise_iff_getElem.2 fun j k hj hk hjk => ?_
  have hk2 : k < s.cores.length := by rw [← h.len]; exact hk
  have := h.apart j k hjk (by omega) hk2
  simpa [List.getD, hj, hk] using this
def Forked (o : Obj) (s : Mach) (H : Hp) (nx : Nat) : AV → Hp → Nat → Prop := fun r H' n => ∃ L, r = .pt L.m 1 0 0 ∧ MAt o s L H' n ∧ (∀ b ∈ L.ids, nx ≤ b) ∧ nx ≤ n ∧ ∀ b, b < nx → getH H' b = getH H b
end Go.Proofs.YtliabecchkolgaaGreat
