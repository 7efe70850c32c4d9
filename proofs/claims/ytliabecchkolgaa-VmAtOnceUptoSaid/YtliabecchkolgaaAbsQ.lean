/- Small rules. -/
import Derived.Test.YtliabecchkolgaaAbsP
namespace Go.Abs
/-- What is to come, behind a name. -/
def contK (P : Program) (n lo : Nat) (y : LC) (Q : QT) (fr : Fr) (H : Hp) (nx : Nat) : Prop := WL P n lo y fr H nx Q
def seqQ (P : Program) (n lo : Nat) (y : LC) (Q : QT) : QT := thenK (contK P n lo y Q) Q
theorem seqQ_normal (P : Program) (n lo : Nat) (y : LC) (Q : QT) : seqQ P n lo y Q .normal = contK P n lo y Q := rfl
theorem seqQ_ret (P : Program) (n lo : Nat) (y : LC) (Q : QT) : seqQ P n lo y Q .ret = Q .ret := rfl
theorem seqQ_exit (P : Program) (n lo : Nat) (y : LC) (Q : QT) (id : Nat) : seqQ P n lo y Q (.exit id) = Q (.exit id) := rfl
theorem WL.seqq {P : Program} {n lo : Nat} {x y : LC} {fr : Fr} {H : Hp} {nx : Nat} {Q : QT} (h : WL P n lo x fr H nx (seqQ P n lo y Q)) : WL P n lo (.seq x y) fr H nx Q := WL.seq h
theorem WL.cont {P : Program} {n lo : Nat} {y : LC} {fr : Fr} {H : Hp} {nx : Nat} {Q : QT} (h : WL P n lo y fr H nx Q) : contK P n lo y Q fr H nx := h
theorem pickA_true (a b : AV) : pickA true a b = a := by unfold pickA; split <;> rfl
theorem pickA_false (a b : AV) : pickA false a b = b := by unfold pickA; split <;> rfl
theorem pickA_bool (t p q : Bool) : pickA t (.sc (.bool p)) (.sc (.bool q)) = .sc (.bool (if t then p else q)) := rfl
theorem pickA_tt {t : Bool} (a b : AV) (h : t = true) : pickA t a b = a := by rw [h, pickA_true]
theorem frz_sc (H : Hp) (k : Nat) (u : Value) : frz H k (.sc u) = .sc u := by cases k <;> rfl

/-- A condition that is not known: both ways. -/
theorem WL.condAb {P : Program} {n lo : Nat} {fr : Fr} {H : Hp} {nx : Nat} {Q : QT} {c : Opd} {x y : LC} (hc : ev fr c = .ab) (h1 : WL P n lo x fr H nx Q) (h2 : WL P n lo y fr H nx Q) : WL P n lo (.cond c x y) fr H nx Q := by
  intro code hcode w0 M0 c0 a w hh
  have : ∃ c' c1 c2, code = .cond c' c1 c2 ∧ lowOpd c' = some c ∧ lowCode P n c1 = some x ∧ lowCode P n c2 = some y := by
    cases code <;> simp only [lowCode] at hcode
    case cond c' c1 c2 =>
      split at hcode
      · rename_i c'' x' y' g1 g2 g3
        simp only [Option.some.injEq, LC.cond.injEq] at hcode
        obtain ⟨rfl, rfl, rfl⟩ := hcode
        exact ⟨c', c1, c2, rfl, g1, g2, g3⟩
      · simp at hcode
    all_goals (exfalso; repeat' (split at hcode)) <;> simp at hcode
  obtain ⟨c', c1, c2, rfl, g1, g2, g3⟩ := this
  have hh' := hh
  obtain ⟨_, _, ρ, U, _, _, hF, _⟩ := hh'
  have hv := evR hF g1
  rw [hc, VR] at hv
  obtain ⟨t, hv⟩ := hv
  exact wp_cond_split hv (fun _ => h1 c1 g2 w0 M0 c0 a w hh) (fun _ => h2 c2 g3 w0 M0 c0 a w hh)
end Go.Abs
