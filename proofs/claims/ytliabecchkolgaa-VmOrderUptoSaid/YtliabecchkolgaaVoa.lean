/- What a load sees: the plain law. -/
import Derived.Test.YtliabecchkolgaaVfa
namespace Go.Proofs.Ytliabecchkolgaa
open Go Go.Abs Go.Proofs
set_option linter.unusedSimpArgs false
set_option linter.unusedVariables false
def toStore (d : DidS) : StoreS := ⟨d.pc, d.addr, d.word⟩
def seenW (a : Int) : List DidS → Int × Bool → Int × Bool
  | [], r => r
  | x :: t, r => seenW a t (if x.addr = a then (x.word, true) else r)
theorem seenW_eq (a : Int) : ∀ (l : List DidS) (r : Int × Bool), seenF a (l.map toStore) r = seenW a l r
  | [], r => rfl
  | x :: t, r => by
    simp only [List.map_cons, seenF, seenW]
    exact seenW_eq a t _
structure Ord (s : Mach) (W : List (List DidS)) : Prop where
  lw : W.length = s.cores.length
  q : ∀ q, q < s.cores.length → (s.core q).buf = (W.getD q []).map toStore
theorem Ord.init (o : Obj) : Ord (initM o) (List.replicate o.cores.length []) := by
  have hcl : (initM o).cores.length = o.cores.length := by simp [initM]
  refine ⟨by simp [hcl], fun q hq => ?_⟩
  rw [hcl] at hq
  have e1 : (List.replicate o.cores.length ([] : List DidS)).getD q [] = [] := by simp [List.getD, hq]
  have e3 : ((initM o).core q).buf = [] := by simp [initM, List.getD, hq, core0]
  rw [e1, e3]; rfl
theorem Ord.keep {s s2 : Mach} {W : List (List DidS)} {q : Nat} {d : DidS} (h : Ord s W) (hd : Does s q d s2) (hl : s2.cores.length = s.cores.length) (h3 : d.kind ≠ 3) (h8 : d.kind ≠ 8) : Ord s2 W := by
  refine ⟨by rw [hl]; exact h.lw, fun j hj => ?_⟩
  rw [hl] at hj
  have h1 := h.q j hj
  by_cases hjq : j = q
  · subst hjq; rw [hd.buf, if_neg h3, if_neg h8]; exact h1
  · rw [hd.other j hjq]; exact h1
theorem Ord.store {s s2 : Mach} {W : List (List DidS)} {q : Nat} {d : DidS} (h : Ord s W) (hd : Does s q d s2) (hl : s2.cores.length = s.cores.length) (h3 : d.kind = 3) : Ord s2 (W.set q (W.getD q [] ++ [d])) := by
  refine ⟨by rw [hl, List.length_set]; exact h.lw, fun j hj => ?_⟩
  rw [hl] at hj
  have h1 := h.q j hj
  by_cases hjq : j = q
  · subst hjq
    rw [getD_set_self (by rw [h.lw]; exact hj), hd.buf, if_pos h3, h1, List.map_append]; rfl
  · rw [getD_set_ne hjq, hd.other j hjq]; exact h1
theorem Ord.drain {s s2 : Mach} {W : List (List DidS)} {q : Nat} {d : DidS} (h : Ord s W) (hd : Does s q d s2) (hl : s2.cores.length = s.cores.length) (h8 : d.kind = 8) : 0 < (W.getD q []).length ∧ Ord s2 (W.set q ((W.getD q []).drop 1)) := by
  have h1 := h.q q hd.lt
  have hb := hd.drain h8
  have hlen : 0 < (W.getD q []).length := by
    have := congrArg List.length hb
    rw [h1] at this
    simp only [List.length_map, List.length_cons] at this; omega
  refine ⟨hlen, by rw [hl, List.length_set]; exact h.lw, fun j hj => ?_⟩
  rw [hl] at hj
  by_cases hjq : j = q
  · subst hjq
    rw [getD_set_self (by rw [h.lw]; exact hj), hd.buf, if_neg (by omega), if_pos h8, h1, List.drop_one, List.map_tail]
  · rw [getD_set_ne hjq, hd.other j hjq]; exact h.q j hj
theorem Ord.load {s s2 : Mach} {W : List (List DidS)} {q : Nat} {d : DidS} (h : Ord s W) (hd : Does s q d s2) (h2 : d.kind = 2) : (d.word, d.own) = seenW d.addr (W.getD q []) (s.mem.getD d.addr.toNat 0, false) := by
  rw [hd.load h2, h.q q hd.lt, seenW_eq]
end Go.Proofs.Ytliabecchkolgaa
