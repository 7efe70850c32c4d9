/- What events see if they are done in an order. -/
import Derived.Test.YtncllkpekbapjaaPb
import Derived.Test.YtncllkpekbapjaaOy
namespace Go.Abs
open Go.RowKit
def Cloned (H : Hp) (nx : Nat) (e : TypeId) (sz : Nat) (es : List AV) : AV → Hp → Nat → Prop := fun r H' n => ∃ b' d', r = .sl b' es.length ∧ nx ≤ b' ∧ b' < n ∧ nx ≤ n ∧ getH H' b' = some (.row e sz d' es) ∧ ∀ b, b < nx → getH H' b = getH H b
theorem Cloned.of {P : Program} {f : FuncId} {args : List AV} {H : Hp} {nx : Nat} {e : TypeId} {sz : Nat} {es : List AV} (hsz : 0 < sz) (h : CallN P f args H nx (fun r H' n => (r = .sc (.slice none 0 0) ∧ es = [] ∧ nx ≤ n ∧ ∀ b, b < nx → getH H' b = getH H b) ∨ Cloned H nx e sz es r H' n)) : CallN P f args H nx (Cloned H nx e sz es) := by
  refine h.wk ?_
  rintro r H' n (⟨rfl, rfl, h1, h2⟩ | h1)
  · refine ⟨_, _, _, Wk.nil (nx := n) e sz .any hsz, n, .any, rfl, h1, Nat.lt_succ_self _, by omega, getH_here _ _ _, fun b hb => ?_⟩
    rw [getH_skipEq (by omega)]; exact h2 b hb
  · exact ⟨r, H', n, Wk.refl _ _ _, h1⟩
end Go.Abs
namespace Go.Proofs.Ytncllkpekbapjaa
open Go Go.Abs Go.Proofs
set_option linter.unusedSimpArgs false
set_option linter.unusedVariables false
theorem clone_ints (l : List Int) (hl : l.length * 8 ≤ 140737488351232) (d : AV) (H : Hp) (nx : Nat) : CallN Try.prog 44 [.im 1 d (l.map i64)] H nx (Cloned H nx 3 1 (l.map i64)) := by
  refine Cloned.of (by omega) ?_
  refine Go.fn Try.func44 nm44 low44 res44 nt44 rfl ?_
  have hsz : (l.map i64).length * 8 ≤ 140737488351232 := by simpa using hl
  generalize hE : l.map i64 = es at *
  cases hes : es with
  | nil =>
    repeat' (first | ((with_reducible refine Go.red ?_); conv => whnf) | with_reducible (first | refine Go.and ?_ ?_ | exact True.intro | refine Go.far ?_ | exact Go.askRep | refine Go.unroll ?_ | refine Go.drawn ?_) | ((with_reducible refine Apt.mk ?_); (try dsimp only); omega) | ((with_reducible refine Ask.mk ?_); first | exact aAsk | exact aAsk2) | ((with_reducible refine Go.ari64 ?_ ?_ ?_); (· exact aBnd); (· exact aBnd)) | ((with_reducible refine Go.ariu8 ?_ ?_ ?_); (· exact aBnd); (· exact aBnd)) | (with_reducible refine Go.ari0 ?_) | (apply Go.elem; (· exact aElem)) | (apply Go.row; (· exact aRow)) | (apply Go.map; (· exact aRow)) | (apply Go.gives; (· exact aGives)) | (apply Go.gives; (· exact aRes)) | (refine Go.gt rfl ?_) | (refine Go.gf rfl ?_) | (with_reducible refine Go.join ?_) | (refine Go.lt' rfl ?_) | (refine Go.lf' rfl ?_) | ((with_reducible refine Go.bool ?_ ?_) <;> intro hc <;> (try simp only [List.length_map, ne_eq, hcs] at hc) <;> try (exfalso; omega)) | ((with_reducible refine Res.eq ?_ ?_); (· exact aFit)))
    · exact ⟨.inl ⟨rfl, rfl, aNx, aKeep⟩⟩
    · exact ⟨.inr ⟨_, _, rfl, aNx, aNx, aNx, aRow, aKeep⟩⟩
  | cons x t =>
    rw [hes] at hsz
    simp only [List.length_cons] at hsz
    repeat' (first | ((with_reducible refine Go.red ?_); conv => whnf) | with_reducible (first | refine Go.and ?_ ?_ | exact True.intro | refine Go.far ?_ | exact Go.askRep | refine Go.unroll ?_ | refine Go.drawn ?_) | ((with_reducible refine Apt.mk ?_); (try dsimp only); omega) | ((with_reducible refine Ask.mk ?_); first | exact aAsk | exact aAsk2) | ((with_reducible refine Go.ari64 ?_ ?_ ?_); (· exact aBnd); (· exact aBnd)) | ((with_reducible refine Go.ariu8 ?_ ?_ ?_); (· exact aBnd); (· exact aBnd)) | (with_reducible refine Go.ari0 ?_) | (apply Go.elem; (· exact aElem)) | (apply Go.row; (· exact aRow)) | (apply Go.map; (· exact aRow)) | (apply Go.gives; (· exact aGives)) | (apply Go.gives; (· exact aRes)) | (refine Go.gt rfl ?_) | (refine Go.gf rfl ?_) | (with_reducible refine Go.join ?_) | (refine Go.lt' rfl ?_) | (refine Go.lf' rfl ?_) | ((with_reducible refine Go.bool ?_ ?_) <;> intro hc <;> (try simp only [List.length_map, ne_eq, hcs] at hc) <;> try (exfalso; omega)) | ((with_reducible refine Res.eq ?_ ?_); (· exact aFit)))
    · exact ⟨.inr ⟨nx + 3, _, (by rw [Nat.zero_add]), aNx, aNx, aNx, aRow, aKeep⟩⟩
def updI (L : Int → Int) (t v : Int) : Int → Int := fun y => if y = t then v else L y
def seeStep (x : Exec) (s : (Int → Int) × (Nat → Int)) (k : Int) : (Int → Int) × (Nat → Int) :=
  (if (x.ev k.toNat).wr = true then updI s.1 (x.ev k.toNat).thing k else s.1, updW s.2 k.toNat (if (x.ev k.toNat).rd = true then s.1 (x.ev k.toNat).thing else -1))
def seeS (x : Exec) (l : List Int) : (Int → Int) × (Nat → Int) := l.foldl (seeStep x) (fun _ => -1, fun _ => 0)
theorem seeS_succ (x : Exec) {l : List Int} {i : Nat} (h : i < l.length) : seeS x (l.take (i + 1)) = seeStep x (seeS x (l.take i)) (l.getD i 0) := by
  unfold seeS
  rw [List.take_succ_eq_append_getElem h, List.foldl_append, List.foldl_cons, List.foldl_nil, getD_el 0 h]
def isLine (n : Nat) (l : List Int) : Bool := decide (l.length = n) && decide (∀ k ∈ l, 0 ≤ k ∧ k < (n : Int)) && decide l.Nodup
def readsL (x : Exec) (l : List Int) : List Int := if okB x = true ∧ isLine x.events.length l = true then (List.range x.events.length).map (seeS x l).2 else []
def readsE (x : Exec) (l : List Int) : Int := if okB x = true then (if isLine x.events.length l = true then 0 else 2) else 220
def lastB (n : Nat) (L : Int → Int) : List AV := (List.range n).map fun (t : Nat) => i64 (L t)
theorem lastB_len (n : Nat) (L : Int → Int) : (lastB n L).length = n := by simp [lastB]
theorem lastB_get {n : Nat} {L : Int → Int} {t : Int} (h : 0 ≤ t ∧ t < n) (d : AV) : (lastB n L).getD t.toNat d = i64 (L t) := by
  have h1 : t.toNat < n := by omega
  have h2 : ((t.toNat : Nat) : Int) = t := by omega
  simp [lastB, List.getD, h1, h2]
theorem lastB_set {n : Nat} {L : Int → Int} {t v : Int} (h : 0 ≤ t ∧ t < n) : (lastB n L).set t.toNat (i64 v) = lastB n (updI L t v) := by
  apply List.ext_getElem?
  intro j
  simp only [lastB, List.getElem?_set, List.getElem?_map, List.length_map, List.length_range, updI]
  by_cases hj : j < n
  · rw [List.getElem?_range hj]
    by_cases h1 : t.toNat = j
    · rw [if_pos h1, if_pos (by omega)]
      simp only [Option.map_some]
      rw [if_pos (by omega)]
    · rw [if_neg h1]
      simp only [Option.map_some]
      rw [if_neg (by omega)]
  · rw [if_neg (by omega), List.getElem?_eq_none (by simp; omega)]; rfl
def zeroB (n i : Nat) : List AV := (List.range n).map fun t => i64 (if t < i then -1 else 0)
theorem zeroB_zero (n : Nat) : List.replicate n (i64 0) = zeroB n 0 := by simp [zeroB, List.map_const']
theorem zeroB_len (n i : Nat) : (zeroB n i).length = n := by simp [zeroB]
theorem zeroB_set {n i : Nat} (h : i < n) : (zeroB n i).set i (i64 (-1)) = zeroB n (i + 1) := by
  apply List.ext_getElem?
  intro j
  simp only [zeroB, List.getElem?_set, List.getElem?_map, List.length_map, List.length_range]
  by_cases hj : j < n
  · rw [List.getElem?_range hj]
    by_cases h1 : i = j
    · rw [if_pos h1, if_pos (by omega)]
      simp only [Option.map_some]
      rw [if_pos (by omega)]
    · rw [if_neg h1]
      simp only [Option.map_some]
      by_cases h2 : j < i
      · rw [if_pos h2, if_pos (by omega)]
      · rw [if_neg h2, if_neg (by omega)]
  · rw [if_neg (by omega), List.getElem?_eq_none (by simp; omega)]; rfl
theorem zeroB_all (n : Nat) : zeroB n n = lastB n fun _ => -1 := by
  unfold zeroB lastB
  apply List.map_congr_left
  intro t ht
  rw [if_pos (by simpa using ht)]
def Upto (n : Nat) (l : List Int) (i : Nat) : Prop := (∀ k ∈ l.take i, 0 ≤ k ∧ k < (n : Int)) ∧ (l.take i).Nodup
theorem Upto.next {n : Nat} {l : List Int} {i : Nat} (h : Upto n l i) (hi : i < l.length) (h1 : 0 ≤ l.getD i 0 ∧ l.getD i 0 < (n : Int)) (h2 : l.getD i 0 ∉ l.take i) : Upto n l (i + 1) := by
  refine ⟨fun k hk => ?_, ?_⟩
  · rcases (mem_take_succ hi).1 hk with h3 | rfl
    · exact h.1 k h3
    · exact h1
  · rw [List.take_succ_eq_append_getElem hi, List.nodup_append, getD_el 0 hi]
    exact ⟨h.2, by simp, fun a ha b hb => by simp at hb; subst hb; exact fun e => h2 (by simpa using e ▸ ha)⟩
theorem isLine_bad {n : Nat} {l : List Int} {i : Nat} (hi : i < l.length) (h : l.getD i 0 < 0 ∨ (n : Int) ≤ l.getD i 0 ∨ l.getD i 0 ∈ l.take i) : isLine n l = false := by
  rw [Bool.eq_false_iff]
  simp only [isLine, ne_eq, Bool.and_eq_true, decide_eq_true_eq]
  rintro ⟨⟨h1, h2⟩, h3⟩
  have h4 := h2 _ (getD_mem' 0 hi)
  rcases h with h | h | h
  · omega
  · omega
  · rw [← List.take_append_drop i l, List.nodup_append] at h3
    refine h3.2.2 _ h _ ?_ rfl
    rw [List.drop_eq_getElem_cons hi, getD_el 0 hi]
    exact List.mem_cons_self
theorem isLine_of {n : Nat} {l : List Int} (hl : l.length = n) (h : Upto n l n) : isLine n l = true := by
  simp only [isLine, Bool.and_eq_true, decide_eq_true_eq]
  obtain ⟨h1, h2⟩ := h
  rw [← hl, List.take_length] at h1 h2
  exact ⟨⟨hl, by rw [← hl]; exact h1⟩, h2⟩
end Go.Proofs.Ytncllkpekbapjaa
