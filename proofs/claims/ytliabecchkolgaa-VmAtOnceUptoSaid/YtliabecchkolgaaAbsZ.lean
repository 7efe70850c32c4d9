/- Questions that answer themselves: each is asked with the way in which it is answered. -/
import Derived.Test.YtliabecchkolgaaAbsW
namespace Go.Abs
open Go.RowKit
theorem app_le {l : List AV} {n k m : Nat} (hl : l.length = m) (h : (n + m) * k ≤ 140737488355328) : (n + l.length) * k ≤ maxB := by rw [hl]; exact h
theorem slc_sl {H : Hp} {s b len : Nat} {e : TypeId} {d : AV} {es : List AV} {lo hi : Option AV} {l h : Nat} (h0 : getH H b = some (.row e s d es)) (hl : es.length = len) (h1 : bndA 0 lo = some l) (h2 : bndA len hi = some h) (h3 : l ≤ h ∧ h ≤ len) : slcA H s lo hi (.sl b len) = some (.sv b len l (h - l)) := by
  simp only [slcA, h0, h1, h2]; rw [if_pos ⟨hl, trivial, h3⟩]
theorem nil_pos {H : Hp} {b len sz : Nat} {e : TypeId} {d : AV} {es : List AV} (h : getH H b = some (.row e sz d es)) (h2 : es.length = len ∧ 0 < len) : nilA H (.sl b len) = some (some false) := by
  simp only [nilA, h]; rw [if_pos h2]
theorem nil_zero {H : Hp} {b : Nat} : nilA H (.sl b 0) = some none := by
  simp only [nilA]
  split
  · rw [if_neg (by omega)]
  · rfl
theorem getD_set_self {α : Type} {l : List α} {i : Nat} {v d : α} (h : i < l.length) : (l.set i v).getD i d = v := by simp [List.getD, h]
/-- Tests as propositions. -/
theorem hcs : (∀ n : Nat, (n : Int).toNat = n) ∧ (∀ (p : Prop) [Decidable p] (b : Bool), (if p then true else b) = (decide p || b)) ∧ (∀ (p : Prop) [Decidable p] (b : Bool), (if p then b else false) = (decide p && b)) ∧ (∀ (p : Prop) [Decidable p] (b : Bool), (if p then false else b) = (!decide p && b)) ∧ (∀ (p : Prop) [Decidable p] (b : Bool), (if p then b else true) = (!decide p || b)) ∧
    (∀ b : Bool, decide (b = true) = b) ∧ (∀ (p : Prop) [Decidable p], (decide p = true) = p) ∧ (∀ (p : Prop) [Decidable p], (decide p = false) = ¬ p) ∧ (∀ a b : Bool, ((a && b) = true) = (a = true ∧ b = true)) ∧ (∀ a b : Bool, ((a || b) = true) = (a = true ∨ b = true)) ∧ (∀ b : Bool, ((!b) = true) = (b = false)) ∧ (∀ b : Bool, ((!b) = false) = (b = true)) ∧
    (∀ a b : Bool, ((a && b) = false) = (a = false ∨ b = false)) ∧ (∀ a b : Bool, ((a || b) = false) = (a = false ∧ b = false)) ∧ (∀ a b : Int, (¬ a < b) = (b ≤ a)) ∧ (∀ a b : Int, (¬ a ≤ b) = (b < a)) ∧ (∀ (p : Prop) [Decidable p], (¬ ¬ p) = p) := by
  refine ⟨by simp, fun p _ b => ?_, fun p _ b => ?_, fun p _ b => ?_, fun p _ b => ?_, by simp, by simp, by simp, by simp, by simp, by simp, by simp, by simp, by simp, fun a b => propext Int.not_lt, fun a b => propext Int.not_le, fun p _ => propext Decidable.not_not⟩
  all_goals by_cases h : p <;> simp [h]
/-- A row of the own memory. -/
theorem aRow {p : Prop} (h : p := by repeat (first | exact getH_here _ _ _ | assumption | refine getH_skip (by first | omega | (simp only [List.length_cons, List.length_nil]; omega)) ?_)) : p := h
/-- A bound. -/
theorem aNx {p : Prop} (h : p := by first | omega | (simp only [List.length_cons, List.length_nil]; omega)) : p := h
/-- Rows that stay. -/
theorem aKeep {p : Prop} (h : p := by intro _b _hb; repeat (first | exact rfl | (refine Eq.trans (getH_skipEq (by first | omega | (simp only [List.length_cons, List.length_nil]; omega))) ?_))) : p := h
/-- A frame at a loop head. -/
theorem aLess {p : Prop} (h : p := by repeat' (first | exact True.intro | refine And.intro ?_ ?_ | exact rfl | ((conv => lhs; whnf); (first | (simp <;> fail) | (simp; omega))))) : p := h
/-- A length. -/
theorem aLen {p : Prop} (h : p := by first | exact rfl | (simp only [List.length_set, List.length_map, List.length_append, List.length_cons, List.length_nil, List.length_take, List.length_drop, List.length_replicate, Int.toNat_natCast] <;> fail) | (simp only [List.length_set, List.length_map, List.length_append, List.length_cons, List.length_nil, List.length_take, List.length_drop, List.length_replicate, Int.toNat_natCast]; omega)) : p := h
/-- A question, answered by what is known. -/
theorem aAsk {p : Prop} (h : p := by first | exact rfl | omega | assumption | exact id | (intro h; exact h ▸ rfl) | (intro h; rw [h] <;> rfl) | (intros; exact rfl) | (intro h; (try simp only [List.length_map, ne_eq, hcs] at h); omega) | (simp only [List.length_set, List.length_map, List.length_append, List.length_cons, List.length_nil, List.length_take, List.length_drop, List.length_replicate, Int.toNat_natCast]; omega) | (intro _; constructor <;> first | exact rfl | exact Nat.le_of_ble_eq_true rfl | omega)) : p := h
/-- The same, the longer ways. -/
theorem aAsk2 {p : Prop} (h : p := by first | (intro h; simp_all <;> fail) | (refine app_le (m := 1) rfl ?_; omega) | (show (_ : Nat) ≤ 140737488355328; first | omega | (simp only [List.length_set, List.length_map, List.length_append, List.length_cons, List.length_nil, List.length_take, List.length_drop, List.length_replicate, Int.toNat_natCast]; omega)) | (exact Nat.le_of_ble_eq_true rfl) | (constructor <;> first | exact rfl | exact Nat.le_of_ble_eq_true rfl | omega) | (simp_all <;> fail)) : p := h
/-- A number within its bounds. -/
theorem aBnd {p : Prop} (h : p := by first | omega | (intro hg; simp only [Gd, List.length_map, ne_eq, hcs] at hg; omega) | (intros; simp only [List.length_map, Int.toNat_natCast]; omega)) : p := h
/-- An element. -/
theorem aElem {p : Prop} (h : p := by first | assumption | (refine getD_set_self ?_; first | omega | (simp only [List.length_set, List.length_map, List.length_append, List.length_cons, List.length_nil, List.length_take, List.length_drop, List.length_replicate, Int.toNat_natCast]; omega)) | (refine getD_av _ _ _ _ ?_; first | omega | (simp only [List.length_map, Int.toNat_natCast]; omega)) | exact rfl) : p := h
/-- A length above nothing. -/
theorem aPos {p : Prop} (h : p := by constructor <;> first | exact rfl | omega | (simp only [List.length_set, List.length_map, List.length_append, List.length_cons, List.length_nil, List.length_take, List.length_drop, List.length_replicate, Int.toNat_natCast]; omega)) : p := h
/-- An end of a slice. -/
theorem aEnd {p : Prop} (h : p := by first | exact rfl | exact bnd_nat _ _ _ | (conv => lhs; whnf); exact rfl) : p := h
/-- Ends in order. -/
theorem aIn {p : Prop} (h : p := by (try simp only [List.length_set, List.length_map, List.length_append, List.length_cons, List.length_nil, List.length_take, List.length_drop, List.length_replicate, Int.toNat_natCast]); omega) : p := h
/-- What a reckoning gives. -/
theorem aGives {p : Prop} (h : p := by first | exact rfl | exact nil_zero | exact nil_pos aRow aPos | exact slc_sl aRow aLen aEnd aEnd aIn | exact slc_im aEnd aEnd aIn) : p := h
/-- Results. -/
theorem aRes {p : Prop} (h : p := by repeat (first | exact resA_nil | (apply resA_tmp) | (apply resA_cell; (· exact rfl); (· exact aRow); (· exact rfl); (· exact rfl)))) : p := h
/-- No address. -/
theorem aFit {p : Prop} (h : p := by first | (simp [fitL, fitA, fitL_map] <;> fail)) : p := h
end Go.Abs
