/- What events see if they are done in an order. -/
import Derived.Test.YtncllkpekbapjaaPb
import Derived.Test.YtncllkpekbapjaaOy
namespace Go.Abs
open Go.RowKit
def Cloned (H : Hp) (nx : Nat) (e : TypeId) (sz : Nat) (es : List AV) : AV → Hp → Nat → Prop := fun r H' n => ∃ b' d', r = .sl b' es.length ∧ nx ≤ b' ∧ b' < n ∧ nx ≤ n ∧ getH H' b' = some (.row e sz d' es) ∧ ∀ b, b < nx → getH H' b = getH H b
theorem Cloned.of {P : Program} {f : FuncId} {args : List AV} {H : Hp} {nx : Nat} {e : TypeId} {sz : Nat} {es : List AV} (hsz : 0 < sz) (h : CallN P f args H nx (fun r H' n => (r = .sc (.slice none 0 0) ∧ es = [] ∧ nx ≤ n ∧ ∀ b, b < nx → getH H' b = getH H b) ∨ Cloned H nx e sz es r H' n)) : CallN P f args H nx (Cloned H nx e sz es) := by
  refine h.wk ?_
  rintro r H' n (⟨rfl, rfl, h1, h2⟩ | h1)
  · refine ⟨_, _, _, Wk.nil (nx := n) e sz .any hsz, n, .any, rfl, h1, Nat.lt_succ_self _, by omega, getH_here _ _ _, fun b hb => ?_⟩
    rw [getH_skipEq (by omega)]; exact h2 b hb
  · exact ⟨r, H', n, Wk.refl _ _ _, h1⟩
end Go.Abs
namespace Go.Proofs.Ytncllkpekbapjaa
open Go Go.Abs Go.Proofs
set_option linter.unusedSimpArgs false
set_option linter.unusedVariables false
theorem clone_ints (l : List Int) (hl : l.length * 8 ≤ 140737488351232) (d : AV) (H : Hp) (nx : Nat) : CallN Try.prog 44 [.im 1 d (l.map i64)] H nx (Cloned H nx 3 1 (l.map i64)) := by
  refine Cloned.of (by omega) ?_
  refine Go.fn Try.func44 nm44 low44 res44 nt44 rfl ?_
  have hsz : (l.map i64).length * 8 ≤ 140737488351232 := by simpa using hl
  generalize hE : l.map i64 = es at *
  cases hes : es with
  | nil =>
    repeat' (first | ((with_reducible refine Go.red ?_); conv => whnf) | with_reducible (first | refine Go.and ?_ ?_ | exact True.intro | refine Go.far ?_ | exact Go.askRep | refine Go.unroll ?_ | refine Go.drawn ?_) | ((with_reducible refine Apt.mk ?_); (try dsimp only); omega) | ((with_reducible refine Ask.mk ?_); first | exact aAsk | exact aAsk2) | ((with_reducible refine Go.ari64 ?_ ?_ ?_); (· exact aBnd); (· exact aBnd)) | ((with_reducible refine Go.ariu8 ?_ ?_ ?_); (· exact aBnd); (· exact aBnd)) | (with_reducible refine Go.ari0 ?_) | (apply Go.elem; (· exact aElem)) | (apply Go.row; (· exact aRow)) | (apply Go.map; (· exact aRow)) | (apply Go.gives; (· exact aGives)) | (apply Go.gives; (· exact aRes)) | (refine Go.gt rfl ?_) | (refine Go.gf rfl ?_) | (with_reducible refine Go.join ?_) | (refine Go.lt' rfl ?_) | (refine Go.lf' rfl ?_) | ((with_reducible refine Go.bool ?_ ?_) <;> intro hc <;> (try simp only [List.length_map, ne_eq, hcs] at hc) <;> try (exfalso; omega)) | ((with_reducible refine Res.eq ?_ ?_); (· exact aFit)))
    · exact ⟨.inl ⟨rfl, rfl, aNx, aKeep⟩⟩
    · exact ⟨.inr ⟨_, _, rfl, aNx, aNx, aNx, aRow, aKeep⟩⟩
  | cons x t =>
    rw [hes] at hsz
    simp only [List.length_cons] at hsz
    repeat' (first | ((with_reducible refine Go.red ?_); conv => whnf) | with_reducible (first | refine Go.and ?_ ?_ | exact True.intro | refine Go.far ?_ | exact Go.askRep | refine Go.unroll ?_ | refine Go.drawn ?_) | ((with_reducible refine Apt.mk ?_); (try dsimp only); omega) | ((with_reducible refine Ask.mk ?_); first | exact aAsk | exact aAsk2) | ((with_reducible refine Go.ari64 ?_ ?_ ?_); (· exact aBnd); (· exact aBnd)) | ((with_reducible refine Go.ariu8 ?_ ?_ ?_); (· exact aBnd); (· exact aBnd)) | (with_reducible refine Go.ari0 ?_) | (apply Go.elem; (· exact aElem)) | (apply Go.row; (· exact aRow)) | (apply Go.map; (· exact aRow)) | (apply Go.gives; (· exact aGives)) | (apply Go.gives; (· exact aRes)) | (refine Go.gt rfl ?_) | (refine Go.gf rfl ?_) | (with_reducible refine Go.join ?_) | (refine Go.lt' rfl ?_) | (refine Go.lf' rfl ?_) | ((with_reducible refine Go.bool ?_ ?_) <;> intro hc <;> (try simp only [List.length_map, ne_eq, hcs] at hc) <;> try (exfalso; omega)) | ((with_reducible refine Res.eq ?_ ?_); (· exact aFit)))
    · exact ⟨.inr ⟨nx + 3, _, (by rw [Nat.zero_add]), aNx, aNx, aNx, aRow, aKeep⟩⟩
def updI (L : Int → Int) (t v : Int) : Int → Int := fun y => if y = t then v else L y
def seeStep (x : Exec) (s : (Int → Int) × (Nat → Int)) (k : Int) : (Int → Int) × (Nat → Int) :=
  (if (x.ev k.toNat).wr = true then updI s.1 (x.ev k.toNat).thing k else s.1, updW s.2 k.toNat (if (x.ev k.toNat).rd = true then s.1 (x.ev k.toNat).thing else -1))
def seeS (x : Exec) (l : List Int) : (Int → Int) × (Nat → Int) := l.foldl (seeStep x) (fun _ => -1, fun _ => 0)
theorem seeS_succ (x : Exec) {l : List Int} {i : Nat} (h : i < l.length) : seeS x (l.take (i + 1)) = seeStep x (seeS x (l.take i)) (l.getD i 0) := by
  unfold seeS
  rw [List.take_succ_eq_append_getElem h, List.foldl_append, List.foldl_cons, List.foldl_nil, getD_el 0 h]
def isLine (n : Nat) (l : List Int) : Bool := decide (l.length = n) && decide (∀ k ∈ l, 0 ≤ k ∧ k < (n : Int)) && decide l.Nodup
def readsL (x : Exec) (l : List Int) : List Int := if okB x = true ∧ isLine x.events.length l = true then (List.range x.events.length).map (seeS x l).2 else []
def readsE (x : Exec) (l : List Int) : Int := if okB x = true then (if isLine x.events.length l = true then 0 else 2) else 220
def Upto (n : Nat) (l : List Int) (i : Nat) : Prop := (∀ k ∈ l.take i, 0 ≤ k ∧ k < (n : Int)) ∧ (l.take i).Nodup
theorem Upto.next {n : Nat} {l : List Int} {i : Nat} (h : Upto n l i) (hi : i < l.length) (h1 : 0 ≤ l.getD i 0 ∧ l.getD i 0 < (n : Int)) (h2 : l.getD i 0 ∉ l.take i) : Upto n l (i + 1) := by
  refine ⟨fun k hk => ?_, ?_⟩
  · rcases (mem_take_succ hi).1 hk with h3 | rfl
    · exact h.1 k h3
    · exact h1
  · rw [List.take_succ_eq_append_getElem hi, List.nodup_append, getD_el 0 hi]
    exact ⟨h.2, by simp, fun a ha b hb => by simp at hb; subst hb; exact fun e => h2 (by simpa using e ▸ ha)⟩
end Go.Proofs.Ytncllkpekbapjaa
