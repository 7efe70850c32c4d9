/- Rows that are written no more, told as what is held by value. -/
import Derived.Test.YtncllkpekbapjaaAbsX
namespace Go.Abs
open Go.RowKit
set_option linter.unusedSimpArgs false
set_option linter.unusedVariables false
structure KeyOf (str : Bool) {κ : Type} [DecidableEq κ] (kf : κ → Value) : Prop where
  eq : ∀ a b, keq str (kf a) (kf b) = some (decide (a = b))
theorem keyInt : KeyOf false (fun n : Int => Value.int .i64 n) := ⟨fun a b => by simp [keq]⟩
section
variable {κ β : Type} [DecidableEq κ]
def mapE (kf : κ → Value) (vf : β → AV) (E : List (κ × β)) : List AV := E.map fun p => ent (kf p.1) (vf p.2)
def lookE : List (κ × β) → κ → Option β
  | [], _ => none
  | p :: E, k => if k = p.1 then some p.2 else lookE E k
def putE : List (κ × β) → κ → β → List (κ × β)
  | [], k, v => [(k, v)]
  | p :: E, k, v => if k = p.1 then (k, v) :: E else p :: putE E k v
def delE : List (κ × β) → κ → List (κ × β)
  | [], _ => []
  | p :: E, k => if k = p.1 then E else p :: delE E k
theorem mfind_E {str : Bool} {kf : κ → Value} (hk : KeyOf str kf) (vf : β → AV) (k : κ) (v : β) : ∀ (E : List (κ × β)) (i : Nat),
    (mfind str (kf k) (mapE kf vf E) i = some none ∧ lookE E k = none ∧ putE E k v = E ++ [(k, v)] ∧ delE E k = E) ∨
    ∃ j v0, mfind str (kf k) (mapE kf vf E) i = some (some (i + j, vf v0)) ∧ lookE E k = some v0 ∧ putE E k v = E.set j (k, v) ∧ delE E k = E.eraseIdx j
  | [], i => .inl ⟨rfl, rfl, rfl, rfl⟩
  | p :: E, i => by
    have e : mfind str (kf k) (mapE kf vf (p :: E)) i = if k = p.1 then some (some (i, vf p.2)) else mfind str (kf k) (mapE kf vf E) (i + 1) := by
      simp only [mapE, List.map_cons, mfind, ent, entA, hk.eq]
      by_cases h : k = p.1 <;> simp [h]
    rw [e, lookE, putE, delE]
    by_cases h : k = p.1
    · simp only [h, if_true]
      exact .inr ⟨0, p.2, by simp, rfl, by simp, by simp⟩
    · simp only [h, if_false]
      rcases mfind_E hk vf k v E (i + 1) with ⟨h1, h2, h3, h4⟩ | ⟨j, v0, h1, h2, h3, h4⟩
      · exact .inl ⟨h1, h2, by rw [h3]; rfl, by rw [h4]⟩
      · exact .inr ⟨j + 1, v0, by rw [h1]; congr 3; omega, h2, by rw [h3]; rfl, by rw [h4]; rfl⟩
theorem mget_E {str : Bool} {kf : κ → Value} (hk : KeyOf str kf) (vf : β → AV) (k : κ) (E : List (κ × β)) (z : AV) : mget str (kf k) (mapE kf vf E) z = some ((lookE E k).elim z vf, (lookE E k).isSome) := by
  unfold mget
  cases E with
  | nil => rfl
  | cons p E =>
    rcases mfind_E hk vf k p.2 (p :: E) 0 with ⟨h1, h2, _⟩ | ⟨j, v0, h1, h2, _⟩ <;> rw [h1, h2] <;> rfl
theorem mput_E {str : Bool} {kf : κ → Value} (hk : KeyOf str kf) (vf : β → AV) (k : κ) (v : β) (E : List (κ × β)) : mput str (kf k) (mapE kf vf E) (vf v) = some (mapE kf vf (putE E k v)) := by
  unfold mput
  rcases mfind_E hk vf k v E 0 with ⟨h1, _, h3, _⟩ | ⟨j, v0, h1, _, h3, _⟩
  · rw [h1, h3]; simp [mapE, ent]
  · rw [h1, h3]; simp only [mapE, Nat.zero_add, List.map_set]; rfl
theorem look_put : ∀ (E : List (κ × β)) (k : κ) (v : β) (k' : κ), lookE (putE E k v) k' = if k' = k then some v else lookE E k'
  | [], k, v, k' => by simp [putE, lookE]
  | p :: E, k, v, k' => by
    rw [putE]
    by_cases h : k = p.1
    · rw [if_pos h]
      simp only [lookE]
      by_cases h2 : k' = k
      · simp [h2]
      · have h3 : ¬ k' = p.1 := fun e => h2 (by rw [e, h])
        simp [h2, h3]
    · rw [if_neg h]
      simp only [lookE]
      rw [look_put E k v k']
      by_cases h2 : k' = p.1
      · have h3 : ¬ k' = k := fun e => h (by rw [← e, h2])
        simp only [h2, if_true, h3, if_false]
        rw [if_neg (fun e => h e.symm)]
      · simp [h2]
theorem len_put : ∀ (E : List (κ × β)) (k : κ) (v : β), (putE E k v).length = E.length + if (lookE E k).isSome = true then 0 else 1
  | [], k, v => by simp [putE, lookE]
  | p :: E, k, v => by
    rw [putE, lookE]
    by_cases h : k = p.1
    · simp [h]
    · simp only [h, if_false, List.length_cons, len_put E k v]; omega
end
end Go.Abs
