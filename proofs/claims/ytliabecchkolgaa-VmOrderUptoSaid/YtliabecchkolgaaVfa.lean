/- Stores in order: the plain law. -/
import Derived.Test.YtliabecchkolgaaVs
namespace Go.Proofs.Ytliabecchkolgaa
open Go Go.Abs Go.Proofs
set_option linter.unusedSimpArgs false
set_option linter.unusedVariables false
structure Fifo (s : Mach) (S : List (List StoreS)) (D : List Nat) (i : Nat) : Prop where
  ls : S.length = s.cores.length
  ld : D.length = s.cores.length
  q : ∀ q, q < s.cores.length → D.getD q 0 ≤ (S.getD q []).length ∧ (s.core q).buf = (S.getD q []).drop (D.getD q 0) ∧ (S.getD q []).length ≤ i
theorem Fifo.init (o : Obj) : Fifo (initM o) (List.replicate o.cores.length []) (List.replicate o.cores.length 0) 0 := by
  have hcl : (initM o).cores.length = o.cores.length := by simp [initM]
  refine ⟨by simp [hcl], by simp [hcl], fun q hq => ?_⟩
  rw [hcl] at hq
  have e1 : (List.replicate o.cores.length ([] : List StoreS)).getD q [] = [] := by simp [List.getD, hq]
  have e2 : (List.replicate o.cores.length 0).getD q 0 = 0 := by simp [List.getD, hq]
  have e3 : ((initM o).core q).buf = [] := by simp [initM, List.getD, hq, core0]
  rw [e1, e2, e3]; simp
theorem Fifo.more {s : Mach} {S : List (List StoreS)} {D : List Nat} {i : Nat} (h : Fifo s S D i) : Fifo s S D (i + 1) :=
  ⟨h.ls, h.ld, fun q hq => ⟨(h.q q hq).1, (h.q q hq).2.1, Nat.le_succ_of_le (h.q q hq).2.2⟩⟩
theorem getD_set_ne {α : Type} {l : List α} {q j : Nat} {v d : α} (h : j ≠ q) : (l.set q v).getD j d = l.getD j d := by
  simp [List.getD, List.getElem?_set_ne (Ne.symm h)]
theorem Fifo.keep {s s2 : Mach} {S : List (List StoreS)} {D : List Nat} {i q : Nat} {d : DidS} (h : Fifo s S D i) (hd : Does s q d s2) (hl : s2.cores.length = s.cores.length) (h3 : d.kind ≠ 3) (h8 : d.kind ≠ 8) : Fifo s2 S D (i + 1) := by
  refine ⟨by rw [hl]; exact h.ls, by rw [hl]; exact h.ld, fun j hj => ?_⟩
  rw [hl] at hj
  have h1 := h.more.q j hj
  have h2 : (s2.core j).buf = (s.core j).buf := by
    by_cases hjq : j = q
    · subst hjq; rw [hd.buf, if_neg h3, if_neg h8]
    · rw [hd.other j hjq]
  rw [h2]; exact h1
theorem Fifo.store {s s2 : Mach} {S : List (List StoreS)} {D : List Nat} {i q : Nat} {d : DidS} (h : Fifo s S D i) (hd : Does s q d s2) (hl : s2.cores.length = s.cores.length) (h3 : d.kind = 3) : Fifo s2 (S.set q (S.getD q [] ++ [⟨d.pc, d.addr, d.word⟩])) D (i + 1) := by
  refine ⟨by rw [hl, List.length_set]; exact h.ls, by rw [hl]; exact h.ld, fun j hj => ?_⟩
  rw [hl] at hj
  obtain ⟨g1, g2, g3⟩ := h.q j hj
  by_cases hjq : j = q
  · subst hjq
    rw [getD_set_self (by rw [h.ls]; exact hj), hd.buf, if_pos h3, g2, List.drop_append_of_le_length g1]
    simp only [List.length_append, List.length_cons, List.length_nil]
    exact ⟨by omega, trivial, by omega⟩
  · rw [getD_set_ne hjq, hd.other j hjq]
    exact ⟨g1, g2, by omega⟩
theorem Fifo.drain {s s2 : Mach} {S : List (List StoreS)} {D : List Nat} {i q : Nat} {d : DidS} (h : Fifo s S D i) (hd : Does s q d s2) (hl : s2.cores.length = s.cores.length) (h8 : d.kind = 8) :
    D.getD q 0 < (S.getD q []).length ∧ (S.getD q []).getD (D.getD q 0) default = ⟨d.pc, d.addr, d.word⟩ ∧ Fifo s2 S (D.set q (D.getD q 0 + 1)) (i + 1) := by
  obtain ⟨k1, k2, k3⟩ := h.q q hd.lt
  have hb := hd.drain h8
  rw [k2] at hb
  have hlt : D.getD q 0 < (S.getD q []).length := by
    have := congrArg List.length hb
    simp only [List.length_drop, List.length_cons] at this; omega
  have hc := List.drop_eq_getElem_cons hlt
  rw [hc] at hb
  simp only [List.cons.injEq] at hb
  refine ⟨hlt, ?_, by rw [hl]; exact h.ls, by rw [hl, List.length_set]; exact h.ld, fun j hj => ?_⟩
  · rw [List.getD, List.getElem?_eq_getElem hlt]; exact hb.1
  rw [hl] at hj
  obtain ⟨g1, g2, g3⟩ := h.q j hj
  by_cases hjq : j = q
  · subst hjq
    rw [getD_set_self (by rw [h.ld]; exact hj), hd.buf, if_neg (by omega), if_pos h8, k2, List.tail_drop]
    exact ⟨hlt, rfl, by omega⟩
  · rw [getD_set_ne hjq, hd.other j hjq]
    exact ⟨g1, g2, by omega⟩
theorem Fifo.wait {s s2 : Mach} {S : List (List StoreS)} {D : List Nat} {i q : Nat} {d : DidS} (h : Fifo s S D i) (hd : Does s q d s2) (hw : d.kind = 4 ∨ d.kind = 5 ∨ d.kind = 6) : D.getD q 0 = (S.getD q []).length := by
  obtain ⟨k1, k2, k3⟩ := h.q q hd.lt
  have := hd.wait hw
  rw [k2, List.drop_eq_nil_iff] at this
  omega
end Go.Proofs.Ytliabecchkolgaa
