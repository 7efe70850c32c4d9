/- The document's line. -/
import Derived.Test.YtncllkpekbapjaaOv
namespace Go.Proofs.Ytncllkpekbapjaa
open Go Go.Abs Go.Proofs
set_option linter.unusedSimpArgs false
set_option linter.unusedVariables false
def doneB (n : Nat) (D : Nat → Bool) : List AV := (List.range n).map fun (k : Nat) => bl (D k)
theorem doneB_len (n : Nat) (D : Nat → Bool) : (doneB n D).length = n := by simp [doneB]
theorem doneB_zero (n : Nat) : List.replicate n (bl false) = doneB n fun _ => false := by simp [doneB, List.map_const']
theorem doneB_get {n : Nat} {D : Nat → Bool} {m : Nat} (h : m < n) (d : AV) : (doneB n D).getD m d = bl (D m) := by
  simp [doneB, List.getD, h]
theorem doneB_set {n : Nat} {D : Nat → Bool} {k : Nat} (h : k < n) : (doneB n D).set k (bl true) = doneB n (setD D k) := by
  apply List.ext_getElem?
  intro j
  simp only [doneB, List.getElem?_set, List.getElem?_map, List.length_map, List.length_range, setD]
  by_cases hj : j < n
  · rw [List.getElem?_range hj]
    by_cases h1 : k = j
    · rw [if_pos h1, if_pos (by omega)]; simp [h1]
    · rw [if_neg h1]; simp [Ne.symm h1]
  · rw [if_neg (by omega), List.getElem?_eq_none (by simp; omega)]; rfl
def preF (M : Mat) (D : Nat → Bool) (i k : Nat) : Bool := !D i && (List.range k).all fun j => D j || !M j i
theorem preF_zero {M : Mat} {D : Nat → Bool} {i : Nat} : preF M D i 0 = !D i := by simp [preF]
theorem preF_succ {M : Mat} {D : Nat → Bool} {i k : Nat} : preF M D i (k + 1) = (preF M D i k && (D k || !M k i)) := by
  simp only [preF, List.range_succ, List.all_append, List.all_cons, List.all_nil, Bool.and_true, Bool.and_assoc]
theorem preF_false {n : Nat} {M : Mat} {D : Nat → Bool} {i k : Nat} (hk : k ≤ n) (h : preF M D i k = false) : freeAt n M D i = false := by
  rw [Bool.eq_false_iff] at h ⊢
  intro hf
  apply h
  simp only [freeAt, preF, Bool.and_eq_true, List.all_eq_true, List.mem_range] at hf ⊢
  exact ⟨hf.1, fun j hj => hf.2 j (by omega)⟩
theorem nextG_of {n : Nat} {M : Mat} {D : Nat → Bool} {i : Nat} (hi : i < n) (h : freeAt n M D i = true) (hl : ∀ j, j < i → freeAt n M D j = false) : nextG n M D = some i := by
  cases hn : nextG n M D with
  | none => rw [nextG_none hn i hi] at h; cases h
  | some j =>
    obtain ⟨_, h2, h3⟩ := nextG_some hn
    rcases Nat.lt_trichotomy i j with h4 | h4 | h4
    · rw [h3 i h4] at h; cases h
    · rw [h4]
    · rw [hl j h4] at h2; cases h2
theorem nextG_of_none {n : Nat} {M : Mat} {D : Nat → Bool} (hl : ∀ j, j < n → freeAt n M D j = false) : nextG n M D = none := by
  cases hn : nextG n M D with
  | none => rfl
  | some j =>
    obtain ⟨h1, h2, _⟩ := nextG_some hn
    rw [hl j h1] at h2; cases h2
def lineK (x : Exec) (k : Int) : Option (List Int) := lineG x.events.length (arrM x (kindF x k))
set_option maxHeartbeats 4000000 in
theorem rline_call (x : Exec) (h : Fine x) (k : Int) (hk : k = 1 ∨ k = 2 ∨ k = 3) :
    CallN Try.prog 35 [x.av, i64 k] [] 0 (fun r H n => ∃ s, r = .tup [s, bl (lineK x k).isSome] ∧ LRes ((lineK x k).getD []) s H) := by
  have hx := h.wf
  have hfew := h.few
  have hA : ∀ a b, a < x.events.length → b < x.events.length → Pure Try.prog 49 [x.av, i64 a, i64 b, i64 k] (fun r => r = bl (arrM x (kindF x k) a b)) := fun a b ha hb => by
    rw [← ref_arr h hk ha hb]
    exact arrow_pure x h k hk a b ha hb
  unfold lineK
  generalize arrM x (kindF x k) = M at *
  refine Go.fn Try.func35 nm35 low35 res35 nt35 rfl ?_
  repeat' (first | ((with_reducible refine Go.red ?_); conv => whnf) | with_reducible (first | refine Go.and ?_ ?_ | exact True.intro | refine Go.far ?_ | exact Go.askRep | refine Go.unroll ?_ | refine Go.drawn ?_) | ((with_reducible refine Apt.mk ?_); (try dsimp only); omega) | ((with_reducible refine Ask.mk ?_); first | exact aAsk | exact aAsk2) | ((with_reducible refine Go.ari64 ?_ ?_ ?_); (· exact aBnd); (· exact aBnd)) | ((with_reducible refine Go.ariu8 ?_ ?_ ?_); (· exact aBnd); (· exact aBnd)) | (with_reducible refine Go.ari0 ?_) | (apply Go.elem; (· exact aElem)) | (apply Go.row; (· exact aRow)) | (apply Go.map; (· exact aRow)) | (apply Go.gives; (· exact aGives)) | (apply Go.gives; (· exact aRes)) | (refine Go.gt rfl ?_) | (refine Go.gf rfl ?_) | (with_reducible refine Go.join ?_) | (refine Go.lt' rfl ?_) | (refine Go.lf' rfl ?_) | ((with_reducible refine Go.bool ?_ ?_) <;> intro hc <;> (try simp only [List.length_map, ne_eq, hcs] at hc) <;> try (exfalso; omega)) | ((with_reducible refine Res.eq ?_ ?_); (· exact aFit)))
  refine Go.loop (fun p : Nat × (Nat → Bool) × List Int × AV => [(1, i64 k), (2, .pt 0 1 0 0), (6, i64 x.events.length), (7, .sl 8 x.events.length), (8, p.2.2.2)])
    (fun p H n => p.1 = todo x.events.length p.2.1 ∧ p.2.2.1.length + p.1 = x.events.length ∧ 9 ≤ n ∧ getH H 0 = some (.row 27 4 .any [x.av]) ∧ getH H 8 = some (.row 4 1 (bl false) (doneB x.events.length p.2.1)) ∧ lineG x.events.length M = greedy x.events.length M p.1 p.2.1 p.2.2.1 ∧ (p.2.2.1 = [] ∧ p.2.2.2 = .sc (.slice none 0 0) ∨ ∃ ob d, p.2.2.1 ≠ [] ∧ p.2.2.2 = .sl ob p.2.2.1.length ∧ 9 ≤ ob ∧ ob < n ∧ getH H ob = some (.row 3 1 d (p.2.2.1.map i64)))) (fun p => p.1) (x.events.length, (fun _ => false), [], .sc (.slice none 0 0)) (by rw [← List.length_map (f := Deed.av)]; exact aLess) ⟨(todo_none _).symm, by simp, aNx, aRow, by rw [← doneB_zero, ← List.length_map (f := Deed.av)]; exact aRow, rfl, .inl ⟨rfl, rfl⟩⟩ ?_
  rintro ⟨f, D, out, s⟩ H1 n1 ⟨ht, hol, hn1, r0, r8, hg, ho⟩
  dsimp only at ht hol r8 hg ho ⊢
  rcases ho with ⟨rfl, rfl⟩ | ⟨ob, d, ho, rfl, hob, hob2, hr⟩
  · by_cases hn0 : x.events.length = 0
    · repeat' (first | ((with_reducible refine Go.red ?_); conv => whnf) | with_reducible (first | refine Go.and ?_ ?_ | exact True.intro | refine Go.far ?_ | exact Go.askRep | refine Go.unroll ?_ | refine Go.drawn ?_) | ((with_reducible refine Apt.mk ?_); (try dsimp only); omega) | ((with_reducible refine Ask.mk ?_); first | exact aAsk | exact aAsk2 | (intro h; simp_all [doneB_len] <;> fail) | (simp_all [doneB_len] <;> fail)) | ((with_reducible refine Go.ari64 ?_ ?_ ?_); (· exact aBnd); (· exact aBnd)) | ((with_reducible refine Go.ariu8 ?_ ?_ ?_); (· exact aBnd); (· exact aBnd)) | (with_reducible refine Go.ari0 ?_) | (apply Go.elem; (· exact aElem)) | (apply Go.row; (· exact aRow)) | (apply Go.map; (· exact aRow)) | (apply Go.gives; (· exact aGives)) | (apply Go.gives; (· exact aRes)) | (refine Go.gt rfl ?_) | (refine Go.gf rfl ?_) | (with_reducible refine Go.join ?_) | (refine Go.lt' rfl ?_) | (refine Go.lf' rfl ?_) | ((with_reducible refine Go.bool ?_ ?_) <;> intro hc <;> (try simp only [List.length_map, ne_eq, hcs] at hc) <;> try (exfalso; omega)) | ((with_reducible refine Res.eq ?_ ?_); (· exact aFit)))
      have hf0 : f = 0 := by simp at hol; omega
      subst hf0
      rw [hg]
      exact ⟨⟨_, rfl, .inl ⟨rfl, rfl⟩⟩⟩
    · repeat' (first | ((with_reducible refine Go.red ?_); conv => whnf) | with_reducible (first | refine Go.and ?_ ?_ | exact True.intro | refine Go.far ?_ | exact Go.askRep | refine Go.unroll ?_ | refine Go.drawn ?_) | ((with_reducible refine Apt.mk ?_); (try dsimp only); omega) | ((with_reducible refine Ask.mk ?_); first | exact aAsk | exact aAsk2 | (intro h; simp_all [doneB_len] <;> fail) | (simp_all [doneB_len] <;> fail)) | ((with_reducible refine Go.ari64 ?_ ?_ ?_); (· exact aBnd); (· exact aBnd)) | ((with_reducible refine Go.ariu8 ?_ ?_ ?_); (· exact aBnd); (· exact aBnd)) | (with_reducible refine Go.ari0 ?_) | (apply Go.elem; (· exact aElem)) | (apply Go.row; (· exact aRow)) | (apply Go.map; (· exact aRow)) | (apply Go.gives; (· exact aGives)) | (apply Go.gives; (· exact aRes)) | (refine Go.gt rfl ?_) | (refine Go.gf rfl ?_) | (with_reducible refine Go.join ?_) | (refine Go.lt' rfl ?_) | (refine Go.lf' rfl ?_) | ((with_reducible refine Go.bool ?_ ?_) <;> intro hc <;> (try simp only [List.length_map, ne_eq, hcs] at hc) <;> try (exfalso; omega)) | ((with_reducible refine Res.eq ?_ ?_); (· exact aFit)))
      have hpos : 0 < f := by (simp only [List.length_nil] at hol; omega)
      obtain ⟨f, rfl⟩ : ∃ g, f = g + 1 := ⟨f - 1, by omega⟩
      rw [greedy] at hg
      refine Go.loop (fun p : Nat × Int => [(1, i64 k), (2, .pt 0 1 0 0), (6, i64 x.events.length), (7, .sl 8 x.events.length), (8, .sc (.slice none 0 0)), (9, i64 p.2), (10, i64 p.1)])
        (fun p H n => p.1 ≤ x.events.length ∧ n1 ≤ n ∧ getH H 0 = some (.row 27 4 .any [x.av]) ∧ getH H 8 = some (.row 4 1 (bl false) (doneB x.events.length D)) ∧ ((p.2 = -1 ∧ ∀ j, j < p.1 → freeAt x.events.length M D j = false) ∨ ∃ i : Nat, p.2 = i ∧ p.1 = i + 1 ∧ i < x.events.length ∧ nextG x.events.length M D = some i)) (fun p => x.events.length - p.1) (0, -1) aLess ⟨Nat.zero_le _, aNx, aRow, aRow, .inl ⟨rfl, fun _ h => by omega⟩⟩ ?_
      rintro ⟨i, nx⟩ H2 n2 ⟨hi, hn2, r02, r82, hnx⟩
      dsimp only at hi hnx ⊢
      rcases hnx with ⟨rfl, hno⟩ | ⟨i0, rfl, rfl, hi0, hnx⟩
      · by_cases hil : i < x.events.length
        · repeat' (first | ((with_reducible refine Go.red ?_); conv => whnf) | with_reducible (first | refine Go.and ?_ ?_ | exact True.intro | refine Go.far ?_ | exact Go.askRep | refine Go.unroll ?_ | refine Go.drawn ?_) | ((with_reducible refine Apt.mk ?_); (try dsimp only); omega) | ((with_reducible refine Ask.mk ?_); first | exact aAsk | (exact fun _ => And.intro (doneB_len _ _) rfl) | (exact And.intro (doneB_len _ _) rfl) | (exact doneB_len _ _) | exact aAsk2) | ((with_reducible refine Go.ari64 ?_ ?_ ?_); (· exact aBnd); (· exact aBnd)) | ((with_reducible refine Go.ariu8 ?_ ?_ ?_); (· exact aBnd); (· exact aBnd)) | (with_reducible refine Go.ari0 ?_) | (apply Go.elem; (· (first | exact doneB_get (by omega) _ | exact aElem))) | (apply Go.row; (· exact aRow)) | (apply Go.map; (· exact aRow)) | (apply Go.gives; (· exact aGives)) | (apply Go.gives; (· exact aRes)) | (refine Go.gt rfl ?_) | (refine Go.gf rfl ?_) | (with_reducible refine Go.join ?_) | (refine Go.lt' rfl ?_) | (refine Go.lf' rfl ?_) | ((with_reducible refine Go.bool ?_ ?_) <;> intro hc <;> (try simp only [List.length_map, ne_eq, hcs] at hc) <;> try (exfalso; omega)) | ((with_reducible refine Res.eq ?_ ?_); (· exact aFit)))
          refine Go.loop (fun p : Nat => [(1, i64 k), (2, .pt 0 1 0 0), (6, i64 x.events.length), (7, .sl 8 x.events.length), (8, .sc (.slice none 0 0)), (9, i64 (-1)), (10, i64 i), (11, bl (preF M D i p)), (12, i64 p)])
            (fun p H n => p ≤ x.events.length ∧ n1 ≤ n ∧ getH H 0 = some (.row 27 4 .any [x.av]) ∧ getH H 8 = some (.row 4 1 (bl false) (doneB x.events.length D)) ∧ True) (fun p => x.events.length - p) 0 (by rw [preF_zero]; exact aLess) ⟨Nat.zero_le _, aNx, aRow, aRow, trivial⟩ ?_
          rintro j H3 n3 ⟨hj, hn3, r03, r83, _⟩
          by_cases hjl : j < x.events.length
          · have hA2 := hA j i hjl hil
            cases hpf : preF M D i j with
            | true =>
              repeat' (first | ((with_reducible refine Go.red ?_); conv => whnf) | with_reducible (first | refine Go.and ?_ ?_ | exact True.intro | refine Go.far ?_ | exact Go.askRep | refine Go.unroll ?_ | refine Go.drawn ?_) | ((with_reducible refine Apt.mk ?_); (try dsimp only); omega) | ((with_reducible refine Ask.mk ?_); first | exact aAsk | (exact fun _ => And.intro (doneB_len _ _) rfl) | (exact And.intro (doneB_len _ _) rfl) | (exact doneB_len _ _) | exact aAsk2) | ((with_reducible refine Go.ari64 ?_ ?_ ?_); (· exact aBnd); (· exact aBnd)) | ((with_reducible refine Go.ariu8 ?_ ?_ ?_); (· exact aBnd); (· exact aBnd)) | (with_reducible refine Go.ari0 ?_) | (apply Go.elem; (· (first | exact doneB_get (by omega) _ | exact aElem))) | (apply Go.row; (· exact aRow)) | (apply Go.map; (· exact aRow)) | (apply Go.gives; (· exact aGives)) | (apply Go.gives; (· exact aRes)) | ((refine Go.callJ (fun _ => hA2) ?_ ?_); (· exact aFit)) | ((refine Go.callF (fun _ => hA2) ?_ ?_); (· exact aFit)) | (refine Go.gt rfl ?_) | (refine Go.gf rfl ?_) | (with_reducible refine Go.join ?_) | (refine Go.lt' rfl ?_) | (refine Go.lf' rfl ?_) | ((with_reducible refine Go.bool ?_ ?_) <;> intro hc <;> (try simp only [List.length_map, ne_eq, hcs] at hc) <;> try (exfalso; omega)) | ((with_reducible refine Res.eq ?_ ?_); (· exact aFit)))
              · refine ⟨j + 1, by omega, ?_, by omega, aNx, aRow, aRow, trivial⟩
                have e : preF M D i (j + 1) = if D j = true then true else !M j i := by rw [preF_succ, hpf]; cases D j <;> simp
                rw [e]
                exact aLess
              · exfalso; rcases hc with hc | hc
                · omega
                · cases hc
            | false =>
              repeat' (first | ((with_reducible refine Go.red ?_); conv => whnf) | with_reducible (first | refine Go.and ?_ ?_ | exact True.intro | refine Go.far ?_ | exact Go.askRep | refine Go.unroll ?_ | refine Go.drawn ?_) | ((with_reducible refine Apt.mk ?_); (try dsimp only); omega) | ((with_reducible refine Ask.mk ?_); first | exact aAsk | (exact fun _ => And.intro (doneB_len _ _) rfl) | (exact And.intro (doneB_len _ _) rfl) | (exact doneB_len _ _) | exact aAsk2) | ((with_reducible refine Go.ari64 ?_ ?_ ?_); (· exact aBnd); (· exact aBnd)) | ((with_reducible refine Go.ariu8 ?_ ?_ ?_); (· exact aBnd); (· exact aBnd)) | (with_reducible refine Go.ari0 ?_) | (apply Go.elem; (· (first | exact doneB_get (by omega) _ | exact aElem))) | (apply Go.row; (· exact aRow)) | (apply Go.map; (· exact aRow)) | (apply Go.gives; (· exact aGives)) | (apply Go.gives; (· exact aRes)) | (refine Go.gt rfl ?_) | (refine Go.gf rfl ?_) | (with_reducible refine Go.join ?_) | (refine Go.lt' rfl ?_) | (refine Go.lf' rfl ?_) | ((with_reducible refine Go.bool ?_ ?_) <;> intro hc <;> (try simp only [List.length_map, ne_eq, hcs] at hc) <;> try (exfalso; omega)) | ((with_reducible refine Res.eq ?_ ?_); (· exact aFit)))
              · exfalso; simp at hc
              · exact ⟨(i + 1, -1), by dsimp only; omega, aLess, by dsimp only; omega, aNx, aRow, aRow, .inl ⟨rfl, fun y hy => by
                  by_cases hyi : y = i
                  · rw [hyi]; exact preF_false hj hpf
                  · exact hno y (by omega)⟩⟩
          · have : j = x.events.length := by omega
            subst this
            cases hpf : preF M D i x.events.length with
            | true =>
              repeat' (first | ((with_reducible refine Go.red ?_); conv => whnf) | with_reducible (first | refine Go.and ?_ ?_ | exact True.intro | refine Go.far ?_ | exact Go.askRep | refine Go.unroll ?_ | refine Go.drawn ?_) | ((with_reducible refine Apt.mk ?_); (try dsimp only); omega) | ((with_reducible refine Ask.mk ?_); first | exact aAsk | (exact fun _ => And.intro (doneB_len _ _) rfl) | (exact And.intro (doneB_len _ _) rfl) | (exact doneB_len _ _) | exact aAsk2) | ((with_reducible refine Go.ari64 ?_ ?_ ?_); (· exact aBnd); (· exact aBnd)) | ((with_reducible refine Go.ariu8 ?_ ?_ ?_); (· exact aBnd); (· exact aBnd)) | (with_reducible refine Go.ari0 ?_) | (apply Go.elem; (· (first | exact doneB_get (by omega) _ | exact aElem))) | (apply Go.row; (· exact aRow)) | (apply Go.map; (· exact aRow)) | (apply Go.gives; (· exact aGives)) | (apply Go.gives; (· exact aRes)) | (refine Go.gt rfl ?_) | (refine Go.gf rfl ?_) | (with_reducible refine Go.join ?_) | (refine Go.lt' rfl ?_) | (refine Go.lf' rfl ?_) | ((with_reducible refine Go.bool ?_ ?_) <;> intro hc <;> (try simp only [List.length_map, ne_eq, hcs] at hc) <;> try (exfalso; omega)) | ((with_reducible refine Res.eq ?_ ?_); (· exact aFit)))
              exact ⟨(i + 1, (i : Int)), by dsimp only; omega, aLess, by dsimp only; omega, aNx, aRow, aRow, .inr ⟨i, rfl, rfl, hil, nextG_of hil hpf hno⟩⟩
            | false =>
              repeat' (first | ((with_reducible refine Go.red ?_); conv => whnf) | with_reducible (first | refine Go.and ?_ ?_ | exact True.intro | refine Go.far ?_ | exact Go.askRep | refine Go.unroll ?_ | refine Go.drawn ?_) | ((with_reducible refine Apt.mk ?_); (try dsimp only); omega) | ((with_reducible refine Ask.mk ?_); first | exact aAsk | (exact fun _ => And.intro (doneB_len _ _) rfl) | (exact And.intro (doneB_len _ _) rfl) | (exact doneB_len _ _) | exact aAsk2) | ((with_reducible refine Go.ari64 ?_ ?_ ?_); (· exact aBnd); (· exact aBnd)) | ((with_reducible refine Go.ariu8 ?_ ?_ ?_); (· exact aBnd); (· exact aBnd)) | (with_reducible refine Go.ari0 ?_) | (apply Go.elem; (· (first | exact doneB_get (by omega) _ | exact aElem))) | (apply Go.row; (· exact aRow)) | (apply Go.map; (· exact aRow)) | (apply Go.gives; (· exact aGives)) | (apply Go.gives; (· exact aRes)) | (refine Go.gt rfl ?_) | (refine Go.gf rfl ?_) | (with_reducible refine Go.join ?_) | (refine Go.lt' rfl ?_) | (refine Go.lf' rfl ?_) | ((with_reducible refine Go.bool ?_ ?_) <;> intro hc <;> (try simp only [List.length_map, ne_eq, hcs] at hc) <;> try (exfalso; omega)) | ((with_reducible refine Res.eq ?_ ?_); (· exact aFit)))
              exact ⟨(i + 1, -1), by dsimp only; omega, aLess, by dsimp only; omega, aNx, aRow, aRow, .inl ⟨rfl, fun y hy => by
                by_cases hyi : y = i
                · rw [hyi]; exact hpf
                · exact hno y (by omega)⟩⟩
        · have hil : i = x.events.length := by omega
          subst hil
          rw [nextG_of_none hno] at hg
          repeat' (first | ((with_reducible refine Go.red ?_); conv => whnf) | with_reducible (first | refine Go.and ?_ ?_ | exact True.intro | refine Go.far ?_ | exact Go.askRep | refine Go.unroll ?_ | refine Go.drawn ?_) | ((with_reducible refine Apt.mk ?_); (try dsimp only); omega) | ((with_reducible refine Ask.mk ?_); first | exact aAsk | exact aAsk2) | ((with_reducible refine Go.ari64 ?_ ?_ ?_); (· exact aBnd); (· exact aBnd)) | ((with_reducible refine Go.ariu8 ?_ ?_ ?_); (· exact aBnd); (· exact aBnd)) | (with_reducible refine Go.ari0 ?_) | (apply Go.elem; (· exact aElem)) | (apply Go.row; (· exact aRow)) | (apply Go.map; (· exact aRow)) | (apply Go.gives; (· exact aGives)) | (apply Go.gives; (· exact aRes)) | (refine Go.gt rfl ?_) | (refine Go.gf rfl ?_) | (with_reducible refine Go.join ?_) | (refine Go.lt' rfl ?_) | (refine Go.lf' rfl ?_) | ((with_reducible refine Go.bool ?_ ?_) <;> intro hc <;> (try simp only [List.length_map, ne_eq, hcs] at hc) <;> try (exfalso; omega)) | ((with_reducible refine Res.eq ?_ ?_); (· exact aFit)))
          rw [hg]
          exact ⟨⟨_, rfl, .inl ⟨rfl, rfl⟩⟩⟩
      · rw [hnx] at hg
        obtain ⟨g1, g2, _⟩ := nextG_some hnx
        have ht2 := todo_set g1 (freeAt_iff.1 g2).1
        repeat' (first | ((with_reducible refine Go.red ?_); conv => whnf) | with_reducible (first | refine Go.and ?_ ?_ | exact True.intro | refine Go.far ?_ | exact Go.askRep | refine Go.unroll ?_ | refine Go.drawn ?_) | ((with_reducible refine Apt.mk ?_); (try dsimp only); omega) | ((with_reducible refine Ask.mk ?_); first | exact aAsk | (exact fun _ => And.intro (doneB_len _ _) rfl) | (exact And.intro (doneB_len _ _) rfl) | (exact doneB_len _ _) | exact aAsk2) | ((with_reducible refine Go.ari64 ?_ ?_ ?_); (· exact aBnd); (· exact aBnd)) | ((with_reducible refine Go.ariu8 ?_ ?_ ?_); (· exact aBnd); (· exact aBnd)) | (with_reducible refine Go.ari0 ?_) | (apply Go.elem; (· (first | exact doneB_get (by omega) _ | exact aElem))) | (apply Go.row; (· exact aRow)) | (apply Go.map; (· exact aRow)) | (apply Go.gives; (· exact aGives)) | (apply Go.gives; (· exact aRes)) | (refine Go.gt rfl ?_) | (refine Go.gf rfl ?_) | (with_reducible refine Go.join ?_) | (refine Go.lt' rfl ?_) | (refine Go.lf' rfl ?_) | ((with_reducible refine Go.bool ?_ ?_) <;> intro hc <;> (try simp only [List.length_map, ne_eq, hcs] at hc) <;> try (exfalso; omega)) | ((with_reducible refine Res.eq ?_ ?_); (· exact aFit)))
        refine ⟨(f, setD D i0, [(i0 : Int)], .sl (n2 + 16) 1), by dsimp only; omega, aLess, by dsimp only; omega, by simp at hol ⊢; omega, aNx, aRow, by dsimp only; rw [← doneB_set (by omega)]; exact aRow, hg, .inr ⟨_, _, by simp, rfl, by omega, aNx, aRow⟩⟩
  · by_cases hlt : out.length < x.events.length
    · repeat' (first | ((with_reducible refine Go.red ?_); conv => whnf) | with_reducible (first | refine Go.and ?_ ?_ | exact True.intro | refine Go.far ?_ | exact Go.askRep | refine Go.unroll ?_ | refine Go.drawn ?_) | ((with_reducible refine Apt.mk ?_); (try dsimp only); omega) | ((with_reducible refine Ask.mk ?_); first | exact aAsk | exact aAsk2 | (intro h; simp_all [doneB_len] <;> fail) | (simp_all [doneB_len] <;> fail)) | ((with_reducible refine Go.ari64 ?_ ?_ ?_); (· exact aBnd); (· exact aBnd)) | ((with_reducible refine Go.ariu8 ?_ ?_ ?_); (· exact aBnd); (· exact aBnd)) | (with_reducible refine Go.ari0 ?_) | (apply Go.elem; (· exact aElem)) | (apply Go.row; (· exact aRow)) | (apply Go.map; (· exact aRow)) | (apply Go.gives; (· exact aGives)) | (apply Go.gives; (· exact aRes)) | (refine Go.gt rfl ?_) | (refine Go.gf rfl ?_) | (with_reducible refine Go.join ?_) | (refine Go.lt' rfl ?_) | (refine Go.lf' rfl ?_) | ((with_reducible refine Go.bool ?_ ?_) <;> intro hc <;> (try simp only [List.length_map, ne_eq, hcs] at hc) <;> try (exfalso; omega)) | ((with_reducible refine Res.eq ?_ ?_); (· exact aFit)))
      have hpos : 0 < f := by omega
      obtain ⟨f, rfl⟩ : ∃ g, f = g + 1 := ⟨f - 1, by omega⟩
      rw [greedy] at hg
      refine Go.loop (fun p : Nat × Int => [(1, i64 k), (2, .pt 0 1 0 0), (6, i64 x.events.length), (7, .sl 8 x.events.length), (8, .sl ob out.length), (9, i64 p.2), (10, i64 p.1)])
        (fun p H n => p.1 ≤ x.events.length ∧ n1 ≤ n ∧ getH H 0 = some (.row 27 4 .any [x.av]) ∧ getH H 8 = some (.row 4 1 (bl false) (doneB x.events.length D)) ∧ getH H ob = some (.row 3 1 d (out.map i64)) ∧ ((p.2 = -1 ∧ ∀ j, j < p.1 → freeAt x.events.length M D j = false) ∨ ∃ i : Nat, p.2 = i ∧ p.1 = i + 1 ∧ i < x.events.length ∧ nextG x.events.length M D = some i)) (fun p => x.events.length - p.1) (0, -1) aLess ⟨Nat.zero_le _, aNx, aRow, aRow, aRow, .inl ⟨rfl, fun _ h => by omega⟩⟩ ?_
      rintro ⟨i, nx⟩ H2 n2 ⟨hi, hn2, r02, r82, o2, hnx⟩
      dsimp only at hi hnx ⊢
      rcases hnx with ⟨rfl, hno⟩ | ⟨i0, rfl, rfl, hi0, hnx⟩
      · by_cases hil : i < x.events.length
        · repeat' (first | ((with_reducible refine Go.red ?_); conv => whnf) | with_reducible (first | refine Go.and ?_ ?_ | exact True.intro | refine Go.far ?_ | exact Go.askRep | refine Go.unroll ?_ | refine Go.drawn ?_) | ((with_reducible refine Apt.mk ?_); (try dsimp only); omega) | ((with_reducible refine Ask.mk ?_); first | exact aAsk | (exact fun _ => And.intro (doneB_len _ _) rfl) | (exact And.intro (doneB_len _ _) rfl) | (exact doneB_len _ _) | exact aAsk2) | ((with_reducible refine Go.ari64 ?_ ?_ ?_); (· exact aBnd); (· exact aBnd)) | ((with_reducible refine Go.ariu8 ?_ ?_ ?_); (· exact aBnd); (· exact aBnd)) | (with_reducible refine Go.ari0 ?_) | (apply Go.elem; (· (first | exact doneB_get (by omega) _ | exact aElem))) | (apply Go.row; (· exact aRow)) | (apply Go.map; (· exact aRow)) | (apply Go.gives; (· exact aGives)) | (apply Go.gives; (· exact aRes)) | (refine Go.gt rfl ?_) | (refine Go.gf rfl ?_) | (with_reducible refine Go.join ?_) | (refine Go.lt' rfl ?_) | (refine Go.lf' rfl ?_) | ((with_reducible refine Go.bool ?_ ?_) <;> intro hc <;> (try simp only [List.length_map, ne_eq, hcs] at hc) <;> try (exfalso; omega)) | ((with_reducible refine Res.eq ?_ ?_); (· exact aFit)))
          refine Go.loop (fun p : Nat => [(1, i64 k), (2, .pt 0 1 0 0), (6, i64 x.events.length), (7, .sl 8 x.events.length), (8, .sl ob out.length), (9, i64 (-1)), (10, i64 i), (11, bl (preF M D i p)), (12, i64 p)])
            (fun p H n => p ≤ x.events.length ∧ n1 ≤ n ∧ getH H 0 = some (.row 27 4 .any [x.av]) ∧ getH H 8 = some (.row 4 1 (bl false) (doneB x.events.length D)) ∧ getH H ob = some (.row 3 1 d (out.map i64)) ∧ True) (fun p => x.events.length - p) 0 (by rw [preF_zero]; exact aLess) ⟨Nat.zero_le _, aNx, aRow, aRow, aRow, trivial⟩ ?_
          rintro j H3 n3 ⟨hj, hn3, r03, r83, o3, _⟩
          by_cases hjl : j < x.events.length
          · have hA2 := hA j i hjl hil
            cases hpf : preF M D i j with
            | true =>
              repeat' (first | ((with_reducible refine Go.red ?_); conv => whnf) | with_reducible (first | refine Go.and ?_ ?_ | exact True.intro | refine Go.far ?_ | exact Go.askRep | refine Go.unroll ?_ | refine Go.drawn ?_) | ((with_reducible refine Apt.mk ?_); (try dsimp only); omega) | ((with_reducible refine Ask.mk ?_); first | exact aAsk | (exact fun _ => And.intro (doneB_len _ _) rfl) | (exact And.intro (doneB_len _ _) rfl) | (exact doneB_len _ _) | exact aAsk2) | ((with_reducible refine Go.ari64 ?_ ?_ ?_); (· exact aBnd); (· exact aBnd)) | ((with_reducible refine Go.ariu8 ?_ ?_ ?_); (· exact aBnd); (· exact aBnd)) | (with_reducible refine Go.ari0 ?_) | (apply Go.elem; (· (first | exact doneB_get (by omega) _ | exact aElem))) | (apply Go.row; (· exact aRow)) | (apply Go.map; (· exact aRow)) | (apply Go.gives; (· exact aGives)) | (apply Go.gives; (· exact aRes)) | ((refine Go.callJ (fun _ => hA2) ?_ ?_); (· exact aFit)) | ((refine Go.callF (fun _ => hA2) ?_ ?_); (· exact aFit)) | (refine Go.gt rfl ?_) | (refine Go.gf rfl ?_) | (with_reducible refine Go.join ?_) | (refine Go.lt' rfl ?_) | (refine Go.lf' rfl ?_) | ((with_reducible refine Go.bool ?_ ?_) <;> intro hc <;> (try simp only [List.length_map, ne_eq, hcs] at hc) <;> try (exfalso; omega)) | ((with_reducible refine Res.eq ?_ ?_); (· exact aFit)))
              · refine ⟨j + 1, by omega, ?_, by omega, aNx, aRow, aRow, aRow, trivial⟩
                have e : preF M D i (j + 1) = if D j = true then true else !M j i := by rw [preF_succ, hpf]; cases D j <;> simp
                rw [e]
                exact aLess
              · exfalso; rcases hc with hc | hc
                · omega
                · cases hc
            | false =>
              repeat' (first | ((with_reducible refine Go.red ?_); conv => whnf) | with_reducible (first | refine Go.and ?_ ?_ | exact True.intro | refine Go.far ?_ | exact Go.askRep | refine Go.unroll ?_ | refine Go.drawn ?_) | ((with_reducible refine Apt.mk ?_); (try dsimp only); omega) | ((with_reducible refine Ask.mk ?_); first | exact aAsk | (exact fun _ => And.intro (doneB_len _ _) rfl) | (exact And.intro (doneB_len _ _) rfl) | (exact doneB_len _ _) | exact aAsk2) | ((with_reducible refine Go.ari64 ?_ ?_ ?_); (· exact aBnd); (· exact aBnd)) | ((with_reducible refine Go.ariu8 ?_ ?_ ?_); (· exact aBnd); (· exact aBnd)) | (with_reducible refine Go.ari0 ?_) | (apply Go.elem; (· (first | exact doneB_get (by omega) _ | exact aElem))) | (apply Go.row; (· exact aRow)) | (apply Go.map; (· exact aRow)) | (apply Go.gives; (· exact aGives)) | (apply Go.gives; (· exact aRes)) | (refine Go.gt rfl ?_) | (refine Go.gf rfl ?_) | (with_reducible refine Go.join ?_) | (refine Go.lt' rfl ?_) | (refine Go.lf' rfl ?_) | ((with_reducible refine Go.bool ?_ ?_) <;> intro hc <;> (try simp only [List.length_map, ne_eq, hcs] at hc) <;> try (exfalso; omega)) | ((with_reducible refine Res.eq ?_ ?_); (· exact aFit)))
              · exfalso; simp at hc
              · exact ⟨(i + 1, -1), by dsimp only; omega, aLess, by dsimp only; omega, aNx, aRow, aRow, aRow, .inl ⟨rfl, fun y hy => by
                  by_cases hyi : y = i
                  · rw [hyi]; exact preF_false hj hpf
                  · exact hno y (by omega)⟩⟩
          · have : j = x.events.length := by omega
            subst this
            cases hpf : preF M D i x.events.length with
            | true =>
              repeat' (first | ((with_reducible refine Go.red ?_); conv => whnf) | with_reducible (first | refine Go.and ?_ ?_ | exact True.intro | refine Go.far ?_ | exact Go.askRep | refine Go.unroll ?_ | refine Go.drawn ?_) | ((with_reducible refine Apt.mk ?_); (try dsimp only); omega) | ((with_reducible refine Ask.mk ?_); first | exact aAsk | (exact fun _ => And.intro (doneB_len _ _) rfl) | (exact And.intro (doneB_len _ _) rfl) | (exact doneB_len _ _) | exact aAsk2) | ((with_reducible refine Go.ari64 ?_ ?_ ?_); (· exact aBnd); (· exact aBnd)) | ((with_reducible refine Go.ariu8 ?_ ?_ ?_); (· exact aBnd); (· exact aBnd)) | (with_reducible refine Go.ari0 ?_) | (apply Go.elem; (· (first | exact doneB_get (by omega) _ | exact aElem))) | (apply Go.row; (· exact aRow)) | (apply Go.map; (· exact aRow)) | (apply Go.gives; (· exact aGives)) | (apply Go.gives; (· exact aRes)) | (refine Go.gt rfl ?_) | (refine Go.gf rfl ?_) | (with_reducible refine Go.join ?_) | (refine Go.lt' rfl ?_) | (refine Go.lf' rfl ?_) | ((with_reducible refine Go.bool ?_ ?_) <;> intro hc <;> (try simp only [List.length_map, ne_eq, hcs] at hc) <;> try (exfalso; omega)) | ((with_reducible refine Res.eq ?_ ?_); (· exact aFit)))
              exact ⟨(i + 1, (i : Int)), by dsimp only; omega, aLess, by dsimp only; omega, aNx, aRow, aRow, aRow, .inr ⟨i, rfl, rfl, hil, nextG_of hil hpf hno⟩⟩
            | false =>
              repeat' (first | ((with_reducible refine Go.red ?_); conv => whnf) | with_reducible (first | refine Go.and ?_ ?_ | exact True.intro | refine Go.far ?_ | exact Go.askRep | refine Go.unroll ?_ | refine Go.drawn ?_) | ((with_reducible refine Apt.mk ?_); (try dsimp only); omega) | ((with_reducible refine Ask.mk ?_); first | exact aAsk | (exact fun _ => And.intro (doneB_len _ _) rfl) | (exact And.intro (doneB_len _ _) rfl) | (exact doneB_len _ _) | exact aAsk2) | ((with_reducible refine Go.ari64 ?_ ?_ ?_); (· exact aBnd); (· exact aBnd)) | ((with_reducible refine Go.ariu8 ?_ ?_ ?_); (· exact aBnd); (· exact aBnd)) | (with_reducible refine Go.ari0 ?_) | (apply Go.elem; (· (first | exact doneB_get (by omega) _ | exact aElem))) | (apply Go.row; (· exact aRow)) | (apply Go.map; (· exact aRow)) | (apply Go.gives; (· exact aGives)) | (apply Go.gives; (· exact aRes)) | (refine Go.gt rfl ?_) | (refine Go.gf rfl ?_) | (with_reducible refine Go.join ?_) | (refine Go.lt' rfl ?_) | (refine Go.lf' rfl ?_) | ((with_reducible refine Go.bool ?_ ?_) <;> intro hc <;> (try simp only [List.length_map, ne_eq, hcs] at hc) <;> try (exfalso; omega)) | ((with_reducible refine Res.eq ?_ ?_); (· exact aFit)))
              exact ⟨(i + 1, -1), by dsimp only; omega, aLess, by dsimp only; omega, aNx, aRow, aRow, aRow, .inl ⟨rfl, fun y hy => by
                by_cases hyi : y = i
                · rw [hyi]; exact hpf
                · exact hno y (by omega)⟩⟩
        · have hil : i = x.events.length := by omega
          subst hil
          rw [nextG_of_none hno] at hg
          repeat' (first | ((with_reducible refine Go.red ?_); conv => whnf) | with_reducible (first | refine Go.and ?_ ?_ | exact True.intro | refine Go.far ?_ | exact Go.askRep | refine Go.unroll ?_ | refine Go.drawn ?_) | ((with_reducible refine Apt.mk ?_); (try dsimp only); omega) | ((with_reducible refine Ask.mk ?_); first | exact aAsk | exact aAsk2) | ((with_reducible refine Go.ari64 ?_ ?_ ?_); (· exact aBnd); (· exact aBnd)) | ((with_reducible refine Go.ariu8 ?_ ?_ ?_); (· exact aBnd); (· exact aBnd)) | (with_reducible refine Go.ari0 ?_) | (apply Go.elem; (· exact aElem)) | (apply Go.row; (· exact aRow)) | (apply Go.map; (· exact aRow)) | (apply Go.gives; (· exact aGives)) | (apply Go.gives; (· exact aRes)) | (refine Go.gt rfl ?_) | (refine Go.gf rfl ?_) | (with_reducible refine Go.join ?_) | (refine Go.lt' rfl ?_) | (refine Go.lf' rfl ?_) | ((with_reducible refine Go.bool ?_ ?_) <;> intro hc <;> (try simp only [List.length_map, ne_eq, hcs] at hc) <;> try (exfalso; omega)) | ((with_reducible refine Res.eq ?_ ?_); (· exact aFit)))
          rw [hg]
          exact ⟨⟨_, rfl, .inl ⟨rfl, rfl⟩⟩⟩
      · rw [hnx] at hg
        obtain ⟨g1, g2, _⟩ := nextG_some hnx
        have ht2 := todo_set g1 (freeAt_iff.1 g2).1
        repeat' (first | ((with_reducible refine Go.red ?_); conv => whnf) | with_reducible (first | refine Go.and ?_ ?_ | exact True.intro | refine Go.far ?_ | exact Go.askRep | refine Go.unroll ?_ | refine Go.drawn ?_) | ((with_reducible refine Apt.mk ?_); (try dsimp only); omega) | ((with_reducible refine Ask.mk ?_); first | exact aAsk | (exact fun _ => And.intro (doneB_len _ _) rfl) | (exact And.intro (doneB_len _ _) rfl) | (exact doneB_len _ _) | exact aAsk2) | ((with_reducible refine Go.ari64 ?_ ?_ ?_); (· exact aBnd); (· exact aBnd)) | ((with_reducible refine Go.ariu8 ?_ ?_ ?_); (· exact aBnd); (· exact aBnd)) | (with_reducible refine Go.ari0 ?_) | (apply Go.elem; (· (first | exact doneB_get (by omega) _ | exact aElem))) | (apply Go.row; (· exact aRow)) | (apply Go.map; (· exact aRow)) | (apply Go.gives; (· exact aGives)) | (apply Go.gives; (· exact aRes)) | (refine Go.gt rfl ?_) | (refine Go.gf rfl ?_) | (with_reducible refine Go.join ?_) | (refine Go.lt' rfl ?_) | (refine Go.lf' rfl ?_) | ((with_reducible refine Go.bool ?_ ?_) <;> intro hc <;> (try simp only [List.length_map, ne_eq, hcs] at hc) <;> try (exfalso; omega)) | ((with_reducible refine Res.eq ?_ ?_); (· exact aFit)))
        refine ⟨(f, setD D i0, out ++ [(i0 : Int)], .sl ob (out.length + 1)), by dsimp only; omega, aLess, by dsimp only; omega, by simp; omega, aNx, aRow, by dsimp only; rw [← doneB_set (by omega)]; exact aRow, hg, .inr ⟨ob, _, by simp, by simp, hob, aNx, by dsimp only; rw [List.map_append]; exact aRow⟩⟩
    · repeat' (first | ((with_reducible refine Go.red ?_); conv => whnf) | with_reducible (first | refine Go.and ?_ ?_ | exact True.intro | refine Go.far ?_ | exact Go.askRep | refine Go.unroll ?_ | refine Go.drawn ?_) | ((with_reducible refine Apt.mk ?_); (try dsimp only); omega) | ((with_reducible refine Ask.mk ?_); first | exact aAsk | exact aAsk2 | (intro h; simp_all [doneB_len] <;> fail) | (simp_all [doneB_len] <;> fail)) | ((with_reducible refine Go.ari64 ?_ ?_ ?_); (· exact aBnd); (· exact aBnd)) | ((with_reducible refine Go.ariu8 ?_ ?_ ?_); (· exact aBnd); (· exact aBnd)) | (with_reducible refine Go.ari0 ?_) | (apply Go.elem; (· exact aElem)) | (apply Go.row; (· exact aRow)) | (apply Go.map; (· exact aRow)) | (apply Go.gives; (· exact aGives)) | (apply Go.gives; (· exact aRes)) | (refine Go.gt rfl ?_) | (refine Go.gf rfl ?_) | (with_reducible refine Go.join ?_) | (refine Go.lt' rfl ?_) | (refine Go.lf' rfl ?_) | ((with_reducible refine Go.bool ?_ ?_) <;> intro hc <;> (try simp only [List.length_map, ne_eq, hcs] at hc) <;> try (exfalso; omega)) | ((with_reducible refine Res.eq ?_ ?_); (· exact aFit)))
      have hf0 : f = 0 := by omega
      subst hf0
      rw [hg]
      exact ⟨⟨_, rfl, .inr ⟨ho, ob, d, rfl, aRow⟩⟩⟩
end Go.Proofs.Ytncllkpekbapjaa
