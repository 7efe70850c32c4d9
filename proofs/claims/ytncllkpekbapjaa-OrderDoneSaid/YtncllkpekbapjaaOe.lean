/- A matrix of bools, and whether its arrows lead round. -/
import Derived.Test.YtncllkpekbapjaaOd
namespace Go.Abs
open Go.RowKit
theorem flatL_sc {α : Type} (f : α → Value) : ∀ (l : List α), flatL (l.map fun a => AV.sc (f a))
  | [] => trivial
  | _ :: l => flatL_sc f l
theorem flatR_sc {α : Type} (f : α → Value) (l : List α) : flatR (.agg (l.map fun a => AV.sc (f a))) := flatL_sc f l
end Go.Abs
namespace Go.Proofs.Ytncllkpekbapjaa
open Go Go.Abs Go.Proofs
set_option linter.unusedSimpArgs false
set_option linter.unusedVariables false
abbrev Mat := Nat → Nat → Bool
def msz : Nat := 4096
theorem msz_eq : msz = 4096 := rfl
attribute [irreducible] msz
def matC (M : Mat) : List AV := (List.range msz).map fun k => bl (M (k / 64) (k % 64))
theorem matC_rep : List.replicate 4096 (AV.sc (.bool false)) = matC fun _ _ => false := by
  unfold matC
  rw [List.map_const', List.length_range, msz_eq]
theorem matC_at {M : Mat} {k : Nat} (h : k < 4096) (d : AV) : (matC M).getD k d = bl (M (k / 64) (k % 64)) := by
  have h' : k < msz := by rw [msz_eq]; exact h
  simp [matC, List.getD, h']
theorem matC_get {M : Mat} {a b : Nat} (ha : a < 64) (hb : b < 64) (d : AV) : (matC M).getD (0 + (a : Int).toNat * 64 + (b : Int).toNat * 1) d = bl (M a b) := by
  rw [matC_at (by omega)]
  have e1 : (0 + (a : Int).toNat * 64 + (b : Int).toNat * 1) / 64 = a := by omega
  have e2 : (0 + (a : Int).toNat * 64 + (b : Int).toNat * 1) % 64 = b := by omega
  rw [e1, e2]
def setM (M : Mat) (a b : Nat) (v : Bool) : Mat := fun x y => if x = a ∧ y = b then v else M x y
theorem matC_set {M : Mat} {a b : Nat} (ha : a < 64) (hb : b < 64) (v : Bool) : (matC M).set (0 + (a : Int).toNat * 64 + (b : Int).toNat * 1) (bl v) = matC (setM M a b v) := by
  apply List.ext_getElem?
  intro k
  simp only [matC, List.getElem?_set, List.getElem?_map, List.length_map, List.length_range, List.getElem?_range, setM]
  have hms := msz_eq
  by_cases hk : k < msz
  · by_cases h : 0 + (a : Int).toNat * 64 + (b : Int).toNat * 1 = k
    · rw [if_pos h, if_pos (by omega)]
      simp only [List.getElem?_range hk, Option.map_some]
      rw [if_pos (by omega)]
    · rw [if_neg h]
      simp only [List.getElem?_range hk, Option.map_some]
      rw [if_neg (by omega)]
  · rw [if_neg (by omega)]
    rw [List.getElem?_eq_none (by simp; omega)]
    rfl
theorem flat_mat (M : Mat) : flatR (.agg (matC M)) := by
  have h := flatR_sc (fun k => .bool (M (k / 64) (k % 64))) (List.range msz)
  have e : matC M = (List.range msz).map fun k => AV.sc (.bool (M (k / 64) (k % 64))) := by delta matC; rfl
  rw [← e] at h
  exact h
attribute [irreducible] matC
def step1 (k : Nat) (M : Mat) : Mat := fun a b => M a b || (M a k && M k b)
def warsh : Nat → Mat → Mat
  | 0, M => M
  | k + 1, M => step1 k (warsh k M)
def ringB (n : Nat) (M : Mat) : Bool := (List.range n).any fun k => warsh n M k k
theorem warsh_col (k : Nat) (M : Mat) (a : Nat) : warsh (k + 1) M a k = warsh k M a k := by
  simp only [warsh, step1]; cases warsh k M a k <;> simp
theorem warsh_row (k : Nat) (M : Mat) (b : Nat) : warsh (k + 1) M k b = warsh k M k b := by
  simp only [warsh, step1]; cases warsh k M k b <;> cases warsh k M k k <;> rfl
def Half (n k a b : Nat) (M0 M : Mat) : Prop := ∀ x y, x < n → y < n → M x y = if x < a ∨ (x = a ∧ y < b) then warsh (k + 1) M0 x y else warsh k M0 x y
theorem Half.at_col {n k a b : Nat} {M0 M : Mat} (h : Half n k a b M0 M) {x : Nat} (hx : x < n) (hk : k < n) : M x k = warsh k M0 x k := by
  rw [h x k hx hk]; split
  · exact warsh_col k M0 x
  · rfl
theorem Half.at_row {n k a b : Nat} {M0 M : Mat} (h : Half n k a b M0 M) {y : Nat} (hy : y < n) (hk : k < n) : M k y = warsh k M0 k y := by
  rw [h k y hk hy]; split
  · exact warsh_row k M0 y
  · rfl
theorem Half.next {n k a b : Nat} {M0 M : Mat} (h : Half n k a b M0 M) (ha : a < n) (hb : b < n) (hk : k < n) {v : Bool} (hv : v = (M a b || (M a k && M k b))) : Half n k a (b + 1) M0 (setM M a b v) := by
  intro x y hx hy
  simp only [setM]
  by_cases hxy : x = a ∧ y = b
  · obtain ⟨rfl, rfl⟩ := hxy
    rw [if_pos ⟨rfl, rfl⟩, if_pos (.inr ⟨rfl, by omega⟩), hv, h.at_col hx hk, h.at_row hy hk, h x y hx hy, if_neg (by omega)]
    rfl
  · rw [if_neg hxy, h x y hx hy]
    by_cases h1 : x < a ∨ (x = a ∧ y < b)
    · rw [if_pos h1, if_pos (by omega)]
    · rw [if_neg h1, if_neg (by omega)]
theorem Half.row {n k a : Nat} {M0 M : Mat} (h : Half n k a n M0 M) : Half n k (a + 1) 0 M0 M := by
  intro x y hx hy
  rw [h x y hx hy]
  by_cases h1 : x < a ∨ (x = a ∧ y < n)
  · rw [if_pos h1, if_pos (by omega)]
  · rw [if_neg h1, if_neg (by omega)]
theorem Half.all {n k : Nat} {M0 M : Mat} (h : Half n k n 0 M0 M) : Half n (k + 1) 0 0 M0 M := by
  intro x y hx hy
  rw [h x y hx hy, if_pos (by omega), if_neg (by omega)]
theorem Half.zero {n : Nat} (M : Mat) : Half n 0 0 0 M M := by
  intro x y hx hy
  rw [if_neg (by omega)]; rfl
set_option maxHeartbeats 4000000 in
theorem ring_call (n b nx : Nat) (H : Hp) (d : AV) (M0 : Mat) (hn : n ≤ 64) (hb : b < nx) (h0 : getH H b = some (.row 72 4096 d [.agg (matC M0)])) :
    CallN Try.prog 48 [.pt b 1 0 0, i64 n] H nx (fun r H' nx' => r = bl (ringB n M0) ∧ nx ≤ nx' ∧ ∀ y, y < nx → y ≠ b → getH H' y = getH H y) := by
  refine Go.fn Try.func48 nm48 low48 res48 nt48 rfl ?_
  repeat' (first | ((with_reducible refine Go.red ?_); conv => whnf) | with_reducible (first | refine Go.and ?_ ?_ | exact True.intro | refine Go.far ?_ | exact Go.askRep | refine Go.unroll ?_ | refine Go.drawn ?_) | ((with_reducible refine Apt.mk ?_); (try dsimp only); omega) | ((with_reducible refine Ask.mk ?_); first | exact aAsk | exact aAsk2) | ((with_reducible refine Go.ari64 ?_ ?_ ?_); (· exact aBnd); (· exact aBnd)) | ((with_reducible refine Go.ariu8 ?_ ?_ ?_); (· exact aBnd); (· exact aBnd)) | (with_reducible refine Go.ari0 ?_) | (apply Go.elem; (· (first | ((with_reducible refine matC_get ?_ ?_ _); (· omega); (· omega)) | exact aElem))) | (apply Go.row; (· exact aRow)) | (apply Go.map; (· exact aRow)) | (apply Go.gives; (· exact aGives)) | (apply Go.gives; (· exact aRes)) | (refine Go.gt rfl ?_) | (refine Go.gf rfl ?_) | (with_reducible refine Go.join ?_) | (refine Go.lt' rfl ?_) | (refine Go.lf' rfl ?_) | ((with_reducible refine Go.bool ?_ ?_) <;> intro hc <;> (try simp only [List.length_map, ne_eq, hcs] at hc) <;> try (exfalso; omega)) | ((with_reducible refine Res.eq ?_ ?_); (· exact aFit)))
  refine Go.loop (fun p : Nat × Mat => [(0, .pt b 1 0 0), (1, i64 n), (9, i64 n), (10, i64 p.1)])
    (fun p H9 n9 => p.1 ≤ n ∧ nx ≤ n9 ∧ getH H9 b = some (.row 72 4096 d [.agg (matC p.2)]) ∧ Half n p.1 0 0 M0 p.2 ∧ ∀ y, y < nx → y ≠ b → getH H9 y = getH H y) (fun p => n - p.1) (0, M0) aLess ⟨Nat.zero_le _, aNx, aRow, Half.zero M0, fun _ _ _ => rfl⟩ ?_
  rintro ⟨k, M1⟩ H1 n1 ⟨hk, hn1, r1, hh1, hfr1⟩
  dsimp only at hk r1 hh1 hfr1 ⊢
  repeat' (first | ((with_reducible refine Go.red ?_); conv => whnf) | with_reducible (first | refine Go.and ?_ ?_ | exact True.intro | refine Go.far ?_ | exact Go.askRep | refine Go.unroll ?_ | refine Go.drawn ?_) | ((with_reducible refine Apt.mk ?_); (try dsimp only); omega) | ((with_reducible refine Ask.mk ?_); first | exact aAsk | exact aAsk2) | ((with_reducible refine Go.ari64 ?_ ?_ ?_); (· exact aBnd); (· exact aBnd)) | ((with_reducible refine Go.ariu8 ?_ ?_ ?_); (· exact aBnd); (· exact aBnd)) | (with_reducible refine Go.ari0 ?_) | (apply Go.elem; (· (first | ((with_reducible refine matC_get ?_ ?_ _); (· omega); (· omega)) | exact aElem))) | (apply Go.row; (· exact aRow)) | (apply Go.map; (· exact aRow)) | (apply Go.gives; (· exact aGives)) | (apply Go.gives; (· exact aRes)) | (refine Go.gt rfl ?_) | (refine Go.gf rfl ?_) | (with_reducible refine Go.join ?_) | (refine Go.lt' rfl ?_) | (refine Go.lf' rfl ?_) | ((with_reducible refine Go.bool ?_ ?_) <;> intro hc <;> (try simp only [List.length_map, ne_eq, hcs] at hc) <;> try (exfalso; omega)) | ((with_reducible refine Res.eq ?_ ?_); (· exact aFit)))
  · refine Go.loop (fun p : Nat × Mat => [(0, .pt b 1 0 0), (1, i64 n), (5, i64 k), (9, i64 n), (10, i64 k), (13, i64 n), (14, i64 p.1)])
      (fun p H9 n9 => p.1 ≤ n ∧ nx ≤ n9 ∧ getH H9 b = some (.row 72 4096 d [.agg (matC p.2)]) ∧ Half n k p.1 0 M0 p.2 ∧ ∀ y, y < nx → y ≠ b → getH H9 y = getH H y) (fun p => n - p.1) (0, M1) aLess ⟨Nat.zero_le _, aNx, aRow, hh1, hfr1⟩ ?_
    rintro ⟨a, M2⟩ H2 n2 ⟨ha, hn2, r2, hh2, hfr2⟩
    dsimp only at ha r2 hh2 hfr2 ⊢
    repeat' (first | ((with_reducible refine Go.red ?_); conv => whnf) | with_reducible (first | refine Go.and ?_ ?_ | exact True.intro | refine Go.far ?_ | exact Go.askRep | refine Go.unroll ?_ | refine Go.drawn ?_) | ((with_reducible refine Apt.mk ?_); (try dsimp only); omega) | ((with_reducible refine Ask.mk ?_); first | exact aAsk | exact aAsk2) | ((with_reducible refine Go.ari64 ?_ ?_ ?_); (· exact aBnd); (· exact aBnd)) | ((with_reducible refine Go.ariu8 ?_ ?_ ?_); (· exact aBnd); (· exact aBnd)) | (with_reducible refine Go.ari0 ?_) | (apply Go.elem; (· (first | ((with_reducible refine matC_get ?_ ?_ _); (· omega); (· omega)) | exact aElem))) | (apply Go.row; (· exact aRow)) | (apply Go.map; (· exact aRow)) | (apply Go.gives; (· exact aGives)) | (apply Go.gives; (· exact aRes)) | (refine Go.gt rfl ?_) | (refine Go.gf rfl ?_) | (with_reducible refine Go.join ?_) | (refine Go.lt' rfl ?_) | (refine Go.lf' rfl ?_) | ((with_reducible refine Go.bool ?_ ?_) <;> intro hc <;> (try simp only [List.length_map, ne_eq, hcs] at hc) <;> try (exfalso; omega)) | ((with_reducible refine Res.eq ?_ ?_); (· exact aFit)))
    · refine Go.loop (fun p : Nat × Mat => [(0, .pt b 1 0 0), (1, i64 n), (5, i64 k), (6, i64 a), (9, i64 n), (10, i64 k), (13, i64 n), (14, i64 a), (17, i64 n), (18, i64 p.1)])
        (fun p H9 n9 => p.1 ≤ n ∧ nx ≤ n9 ∧ getH H9 b = some (.row 72 4096 d [.agg (matC p.2)]) ∧ Half n k a p.1 M0 p.2 ∧ ∀ y, y < nx → y ≠ b → getH H9 y = getH H y) (fun p => n - p.1) (0, M2) aLess ⟨Nat.zero_le _, aNx, aRow, hh2, hfr2⟩ ?_
      rintro ⟨c, M3⟩ H3 n3 ⟨hc3, hn3, r3, hh3, hfr3⟩
      dsimp only at hc3 r3 hh3 hfr3 ⊢
      repeat' (first | ((with_reducible refine Go.red ?_); conv => whnf) | with_reducible (first | refine Go.and ?_ ?_ | exact True.intro | refine Go.far ?_ | exact Go.askRep | refine Go.unroll ?_ | refine Go.drawn ?_) | ((with_reducible refine Apt.mk ?_); (try dsimp only); omega) | ((with_reducible refine Ask.mk ?_); first | exact aAsk | exact aAsk2) | ((with_reducible refine Go.ari64 ?_ ?_ ?_); (· exact aBnd); (· exact aBnd)) | ((with_reducible refine Go.ariu8 ?_ ?_ ?_); (· exact aBnd); (· exact aBnd)) | (with_reducible refine Go.ari0 ?_) | (apply Go.elem; (· (first | ((with_reducible refine matC_get ?_ ?_ _); (· omega); (· omega)) | exact aElem))) | (apply Go.row; (· exact aRow)) | (apply Go.map; (· exact aRow)) | (apply Go.gives; (· exact aGives)) | (apply Go.gives; (· exact aRes)) | (refine Go.gt rfl ?_) | (refine Go.gf rfl ?_) | (with_reducible refine Go.join ?_) | (refine Go.lt' rfl ?_) | (refine Go.lf' rfl ?_) | ((with_reducible refine Go.bool ?_ ?_) <;> intro hc <;> (try simp only [List.length_map, ne_eq, hcs] at hc) <;> try (exfalso; omega)) | ((with_reducible refine Res.eq ?_ ?_); (· exact aFit)))
      · refine ⟨(c + 1, setM M3 a c (if M3 a c = true then true else (if M3 a k = true then M3 k c else false))), by dsimp only; omega, aLess, by dsimp only; omega, aNx, ?_, hh3.next (by omega) (by omega) (by omega) (by cases M3 a c <;> cases M3 a k <;> cases M3 k c <;> rfl), fun y hy hne => (getH_skipEq hne).trans (hfr3 y hy hne)⟩
        dsimp only
        rw [← matC_set (by omega) (by omega)]
        exact aRow
      · have : c = n := by omega
        subst this
        exact ⟨(a + 1, M3), by dsimp only; omega, aLess, by dsimp only; omega, aNx, aRow, hh3.row, hfr3⟩
    · have : a = n := by omega
      subst this
      exact ⟨(k + 1, M2), by dsimp only; omega, aLess, by dsimp only; omega, aNx, aRow, hh2.all, hfr2⟩
  · have : k = n := by omega
    subst this
    refine Go.loop (fun i : Nat => [(0, .pt b 1 0 0), (55, i64 k), (56, i64 i)])
      (fun i H9 n9 => i ≤ k ∧ nx ≤ n9 ∧ getH H9 b = some (.row 72 4096 d [.agg (matC M1)]) ∧ (∀ j, j < i → M1 j j = false) ∧ ∀ y, y < nx → y ≠ b → getH H9 y = getH H y) (fun i => k - i) 0 aLess ⟨Nat.zero_le _, aNx, aRow, fun _ h => by omega, hfr1⟩ ?_
    rintro i H4 n4 ⟨hi, hn4, r4, hno, hfr4⟩
    have hd : ∀ j, j < k → M1 j j = warsh k M0 j j := fun j hj => by rw [hh1 j j hj hj, if_neg (by omega)]
    repeat' (first | ((with_reducible refine Go.red ?_); conv => whnf) | with_reducible (first | refine Go.and ?_ ?_ | exact True.intro | refine Go.far ?_ | exact Go.askRep | refine Go.unroll ?_ | refine Go.drawn ?_) | ((with_reducible refine Apt.mk ?_); (try dsimp only); omega) | ((with_reducible refine Ask.mk ?_); first | exact aAsk | exact aAsk2) | ((with_reducible refine Go.ari64 ?_ ?_ ?_); (· exact aBnd); (· exact aBnd)) | ((with_reducible refine Go.ariu8 ?_ ?_ ?_); (· exact aBnd); (· exact aBnd)) | (with_reducible refine Go.ari0 ?_) | (apply Go.elem; (· (first | ((with_reducible refine matC_get ?_ ?_ _); (· omega); (· omega)) | exact aElem))) | (apply Go.row; (· exact aRow)) | (apply Go.map; (· exact aRow)) | (apply Go.gives; (· exact aGives)) | (apply Go.gives; (· exact aRes)) | (refine Go.gt rfl ?_) | (refine Go.gf rfl ?_) | (with_reducible refine Go.join ?_) | (refine Go.lt' rfl ?_) | (refine Go.lf' rfl ?_) | ((with_reducible refine Go.bool ?_ ?_) <;> intro hc <;> (try simp only [List.length_map, ne_eq, hcs] at hc) <;> try (exfalso; omega)) | ((with_reducible refine Res.eq ?_ ?_); (· exact aFit)))
    · refine ⟨⟨?_, aNx, hfr4⟩⟩
      refine bl_eq (Eq.symm ?_)
      simp only [ringB, List.any_eq_true, List.mem_range]
      exact ⟨i, by omega, by rw [← hd i (by omega)]; exact hc⟩
    · refine ⟨i + 1, by omega, aLess, by omega, aNx, aRow, fun j hj => ?_, hfr4⟩
      by_cases hji : j = i
      · subst hji; exact hc
      · exact hno j (by omega)
    · refine ⟨⟨?_, aNx, hfr4⟩⟩
      refine bl_eq (Eq.symm ?_)
      simp only [ringB, List.any_eq_false, List.mem_range]
      intro j hj
      rw [← hd j hj, hno j (by omega)]
      simp
end Go.Proofs.Ytncllkpekbapjaa
