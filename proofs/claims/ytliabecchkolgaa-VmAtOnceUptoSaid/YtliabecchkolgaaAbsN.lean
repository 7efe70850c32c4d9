/- Regions whose order is drawn: whatever order, the same comes of it. -/
import Derived.Test.YtliabecchkolgaaAbsM
namespace Go.Abs
open Go.RowKit

def idsA : AV → List Nat
  | .sl b _ => [b]
  | .pt b _ _ _ => [b]
  | .sv b _ _ _ => [b]
  | _ => []
def idsOp (fr : Fr) (op : LOp) : List Nat := if op.rd then op.opds.flatMap (fun x => idsA (ev fr x)) else []

/-- A call that looks at the rows S of its caller's alone, and may hand back one row of its own making. -/
def PureK (P : Program) (id : Nat) (f : AV) (args : List AV) (H : Hp) (r : AV) (u : Option (Nat × Blk)) (S : List Nat) : Prop :=
  match f with
  | .fn (.func g) first caps => (∀ H1, (∀ b ∈ S, getH H1 b = getH H b) → CallH P g (first ++ args ++ caps) H1 id (fun r' H' => r' = r ∧ H' = putH H1 u)) ∧ (∀ b q, u = some (b, q) → b = id)
  | _ => False
theorem Pure.pureK {P : Program} {id : Nat} {g : FuncId} {first args caps : List AV} {H : Hp} {r : AV} (hf : fitL 0 (first ++ args ++ caps)) (h : Pure P g (first ++ args ++ caps) (fun r' => r' = r)) : PureK P id (.fn (.func g) first caps) args H r none [] :=
  ⟨fun H1 _ => h.callH hf fun _ hr => ⟨hr, rfl⟩, fun _ _ h => by cases h⟩
def YldOp (P : Program) (id : Nat) (fr : Fr) (H : Hp) (op : LOp) (r : AV) (u : Option (Nat × Blk)) (S : List Nat) : Prop :=
  match op with
  | .call f args => PureK P id (ev fr f) (evL fr args) H r u S
  | op => stepL id fr H op = some (r, u) ∧ S = idsOp fr op
def YldG (P : Program) (id : Nat) (fr : Fr) (H : Hp) (g : GOp) (r : AV) (u : Option (Nat × Blk)) (S : List Nat) : Prop :=
  GuardK fr g.guard (YldOp P id fr H g.op r u S) (r = .sc undef ∧ u = none)

def StepD (P : Program) (id : Nat) (fr : Fr) (H : Hp) (op : LOp) (K : AV → Option (Nat × Blk) → List Nat → Prop) : Prop :=
  match op with
  | .call f args => ∃ r u S, PureK P id (ev fr f) (evL fr args) H r u S ∧ K r u S
  | op => optK (stepL id fr H op) fun p => K p.1 p.2 (idsOp fr op)

abbrev Tr := List (List Nat × Option Nat)
/-- The order of the text; what each step touches is written down. -/
def RunD (P : Program) : Nat → List GOp → Fr → Hp → Tr → (Fr → Hp → Tr → Prop) → Prop
  | _, [], fr, H, tr, K => K fr H tr
  | id, g :: rest, fr, H, tr, K => GuardK fr g.guard (StepD P id fr H g.op fun r u S => RunD P (id + 1) rest (putF fr g.dst r) (putH H u) (tr ++ [(S, u.map (·.1))]) K)
      (RunD P (id + 1) rest (putF fr g.dst (.sc undef)) H (tr ++ [([], none)]) K)
theorem GuardK.mono {fr : Fr} {g : Option (Nat × Bool)} {A A' B B' : Prop} (h : GuardK fr g A B) (ha : A → A') (hb : B → B') : GuardK fr g A' B' := by
  unfold GuardK at *
  split
  · simp only at h; exact ha h
  · simp only at h
    split at h
    · split at h
      · rename_i ht; rw [if_pos ht]; exact ha h
      · rename_i ht; rw [if_neg ht]; exact hb h
    · exact hb h
    · exact h.elim
theorem StepD.mono {P : Program} {id : Nat} {fr : Fr} {H : Hp} {op : LOp} {K K' : AV → Option (Nat × Blk) → List Nat → Prop} (h : StepD P id fr H op K) (hk : ∀ r u S, K r u S → K' r u S) : StepD P id fr H op K' := by
  cases op
  case call f args => obtain ⟨r, u, S, h1, h2⟩ := h; exact ⟨r, u, S, h1, hk _ _ _ h2⟩
  all_goals
    simp only [StepD] at h ⊢
    generalize stepL id fr H _ = x at h ⊢
    cases x with
    | none => exact h
    | some p => exact hk _ _ _ h
theorem StepD.yld {P : Program} {id : Nat} {fr : Fr} {H : Hp} {op : LOp} {K : AV → Option (Nat × Blk) → List Nat → Prop} (h : StepD P id fr H op K) : ∃ r u S, YldOp P id fr H op r u S ∧ K r u S := by
  cases op
  case call f args => obtain ⟨r, u, S, h1, h2⟩ := h; exact ⟨r, u, S, h1, h2⟩
  all_goals
    simp only [StepD, YldOp] at h ⊢
    generalize stepL id fr H _ = x at h ⊢
    cases x with
    | none => exact h.elim
    | some p => exact ⟨p.1, p.2, _, ⟨rfl, rfl⟩, h⟩

structure It where
  dst : Option Nat
  r : AV
  u : Option (Nat × Blk)
def apF (L : Nat → Bool) : Nat → List It → Fr → Fr
  | _, [], fr => fr
  | k, it :: its, fr => apF L (k + 1) its (if L k then putF fr it.dst it.r else fr)
def apH (L : Nat → Bool) : Nat → List It → Hp → Hp
  | _, [], H => H
  | k, it :: its, H => apH L (k + 1) its (if L k then putH H it.u else H)

theorem getF_put_ne {fr : Fr} {d : Option Nat} {r : AV} {t : Nat} (h : d ≠ some t) : getF (putF fr d r) t = getF fr t := by
  cases d with
  | none => rfl
  | some d => simp only [putF, getF]; rw [if_neg (fun e => h (by rw [e]))]
theorem getF_put_eq {fr : Fr} {r : AV} {t : Nat} : getF (putF fr (some t) r) t = r := by simp [putF, getF]
theorem getH_put_ne {H : Hp} {u : Option (Nat × Blk)} {b : Nat} (h : ∀ k, u ≠ some (b, k)) : getH (putH H u) b = getH H b := by
  cases u with
  | none => rfl
  | some p => obtain ⟨b', k⟩ := p; simp only [putH, getH]; rw [if_neg (fun e => h k (by rw [e]))]
theorem getH_put_eq {H : Hp} {k : Blk} {b : Nat} : getH (putH H (some (b, k))) b = some k := by simp [putH, getH]

theorem apF_agree {L L' : Nat → Bool} {t : Nat} : ∀ {its : List It} {k : Nat} {fr fr' : Fr}, getF fr t = getF fr' t → (∀ j it, its[j]? = some it → it.dst = some t → L (k + j) = L' (k + j)) → getF (apF L k its fr) t = getF (apF L' k its fr') t
  | [], _, _, _, h, _ => h
  | it :: its, k, fr, fr', h, hj => by
    simp only [apF]
    refine apF_agree ?_ fun j it' hi hd => by have := hj (j + 1) it' (by simpa using hi) hd; simpa [Nat.add_assoc, Nat.add_comm 1 j] using this
    by_cases hd : it.dst = some t
    · have := hj 0 it rfl hd
      simp only [Nat.add_zero] at this
      rw [this, hd]
      cases L' k
      · simpa using h
      · simp only [if_true, getF_put_eq]
    · cases L k <;> cases L' k <;> simp [getF_put_ne hd, h]
theorem apH_agree {L L' : Nat → Bool} {b : Nat} : ∀ {its : List It} {k : Nat} {H H' : Hp}, getH H b = getH H' b → (∀ (j : Nat) (it : It), its[j]? = some it → (∃ q, it.u = some (b, q)) → L (k + j) = L' (k + j)) → getH (apH L k its H) b = getH (apH L' k its H') b
  | [], _, _, _, h, _ => h
  | it :: its, k, H, H', h, hj => by
    simp only [apH]
    refine apH_agree ?_ fun j it' hi hd => by have := hj (j + 1) it' (by simpa using hi) hd; simpa [Nat.add_assoc, Nat.add_comm 1 j] using this
    by_cases hd : ∃ q, it.u = some (b, q)
    · have := hj 0 it rfl hd
      simp only [Nat.add_zero] at this
      obtain ⟨q, hq⟩ := hd
      rw [this, hq]
      cases L' k
      · simpa using h
      · simp only [if_true, getH_put_eq]
    · have hd' : ∀ q, it.u ≠ some (b, q) := fun q hq => hd ⟨q, hq⟩
      cases L k <;> cases L' k <;> simp [getH_put_ne hd', h]
theorem apF_last {L : Nat → Bool} {t i : Nat} {it : It} (hd : it.dst = some t) : ∀ {its : List It} {k : Nat} {fr : Fr}, its[i]? = some it → L (k + i) = true → (∀ j it', i < j → its[j]? = some it' → it'.dst = some t → L (k + j) = false) → getF (apF L k its fr) t = it.r := by
  induction i with
  | zero =>
    intro its k fr hi hL hj
    cases its with
    | nil => simp at hi
    | cons x its =>
      simp at hi
      subst hi
      simp only [apF]
      have hL' : L k = true := hL
      rw [hL', if_pos rfl, hd]
      rw [apF_agree (L' := fun _ => false) (fr' := putF fr (some t) x.r) rfl fun j it' hi' hd' => ?_]
      · have : ∀ (its : List It) (k : Nat) (fr : Fr), apF (fun _ => false) k its fr = fr := by
          intro its
          induction its with
          | nil => intros; rfl
          | cons y ys ih => intro k fr; simp only [apF]; exact ih _ _
        rw [this, getF_put_eq]
      · have := hj (j + 1) it' (by omega) (by simpa using hi') hd'
        simpa [Nat.add_assoc, Nat.add_comm 1 j] using this
  | succ i ih =>
    intro its k fr hi hL hj
    cases its with
    | nil => simp at hi
    | cons x its =>
      simp only [apF]
      refine ih (by simpa using hi) (by simpa [Nat.add_assoc, Nat.add_comm 1 i] using hL) fun j it' hij hi' hd' => ?_
      have := hj (j + 1) it' (by omega) (by simpa using hi') hd'
      simpa [Nat.add_assoc, Nat.add_comm 1 j] using this
theorem apH_last {L : Nat → Bool} {b i : Nat} {q : Blk} {it : It} (hd : it.u = some (b, q)) : ∀ {its : List It} {k : Nat} {H : Hp}, its[i]? = some it → L (k + i) = true → (∀ (j : Nat) (it' : It), i < j → its[j]? = some it' → (∃ q, it'.u = some (b, q)) → L (k + j) = false) → getH (apH L k its H) b = some q := by
  induction i with
  | zero =>
    intro its k H hi hL hj
    cases its with
    | nil => simp at hi
    | cons x its =>
      simp at hi
      subst hi
      simp only [apH]
      have hL' : L k = true := hL
      rw [hL', if_pos rfl, hd]
      rw [apH_agree (L' := fun _ => false) (H' := putH H (some (b, q))) rfl fun j it' hi' hd' => ?_]
      · have : ∀ (its : List It) (k : Nat) (H : Hp), apH (fun _ => false) k its H = H := by
          intro its
          induction its with
          | nil => intros; rfl
          | cons y ys ih => intro k H; simp only [apH]; exact ih _ _
        rw [this, getH_put_eq]
      · have := hj (j + 1) it' (by omega) (by simpa using hi') hd'
        simpa [Nat.add_assoc, Nat.add_comm 1 j] using this
  | succ i ih =>
    intro its k H hi hL hj
    cases its with
    | nil => simp at hi
    | cons x its =>
      simp only [apH]
      refine ih (by simpa using hi) (by simpa [Nat.add_assoc, Nat.add_comm 1 i] using hL) fun j it' hij hi' hd' => ?_
      have := hj (j + 1) it' (by omega) (by simpa using hi') hd'
      simpa [Nat.add_assoc, Nat.add_comm 1 j] using this
theorem apF_shift (L : Nat → Bool) : ∀ (its : List It) (k : Nat) (fr : Fr), apF L (k + 1) its fr = apF (fun j => L (j + 1)) k its fr
  | [], _, _ => rfl
  | it :: its, k, fr => by simp only [apF]; exact apF_shift L its (k + 1) _
theorem apH_shift (L : Nat → Bool) : ∀ (its : List It) (k : Nat) (H : Hp), apH L (k + 1) its H = apH (fun j => L (j + 1)) k its H
  | [], _, _ => rfl
  | it :: its, k, H => by simp only [apH]; exact apH_shift L its (k + 1) _
theorem apF_none : ∀ (its : List It) (k : Nat) (fr : Fr), apF (fun _ => false) k its fr = fr
  | [], _, _ => rfl
  | _ :: its, k, fr => by simp only [apF]; exact apF_none its _ _
theorem apH_none : ∀ (its : List It) (k : Nat) (H : Hp), apH (fun _ => false) k its H = H
  | [], _, _ => rfl
  | _ :: its, k, H => by simp only [apH]; exact apH_none its _ _

/-- What a run in the text's order shows of each step. -/
theorem runD_res {P : Program} : ∀ {gs : List GOp} {id : Nat} {fr : Fr} {H : Hp} {tr : Tr} {K : Fr → Hp → Tr → Prop}, RunD P id gs fr H tr K →
    ∃ (its : List It) (tl : Tr), its.length = gs.length ∧ tl.length = gs.length ∧ K (apF (fun _ => true) 0 its fr) (apH (fun _ => true) 0 its H) (tr ++ tl) ∧
      ∀ k g, gs[k]? = some g → ∃ it t, its[k]? = some it ∧ tl[k]? = some t ∧ it.dst = g.dst ∧ YldG P (id + k) (apF (fun j => decide (j < k)) 0 its fr) (apH (fun j => decide (j < k)) 0 its H) g it.r it.u t.1 ∧
        t.2 = it.u.map (·.1) ∧ (YldOp P (id + k) (apF (fun j => decide (j < k)) 0 its fr) (apH (fun j => decide (j < k)) 0 its H) g.op it.r it.u t.1 ∨ it.u = none ∧ it.r = .sc undef ∧ GuardK (apF (fun j => decide (j < k)) 0 its fr) g.guard False True ∧ t.1 = [])
  | [], id, fr, H, tr, K, h => ⟨[], [], rfl, rfl, by simpa [apF, apH, RunD] using h, by simp⟩
  | g :: gs, id, fr, H, tr, K, h => by
    have cont : ∀ (r : AV) (u : Option (Nat × Blk)) (t : List Nat × Option Nat), YldG P id fr H g r u t.1 → t.2 = u.map (·.1) → (YldOp P id fr H g.op r u t.1 ∨ u = none ∧ r = .sc undef ∧ GuardK fr g.guard False True ∧ t.1 = []) →
        RunD P (id + 1) gs (putF fr g.dst r) (putH H u) (tr ++ [t]) K → ∃ (its : List It) (tl : Tr), its.length = (g :: gs).length ∧ tl.length = (g :: gs).length ∧ K (apF (fun _ => true) 0 its fr) (apH (fun _ => true) 0 its H) (tr ++ tl) ∧
      ∀ k g', (g :: gs)[k]? = some g' → ∃ it t, its[k]? = some it ∧ tl[k]? = some t ∧ it.dst = g'.dst ∧ YldG P (id + k) (apF (fun j => decide (j < k)) 0 its fr) (apH (fun j => decide (j < k)) 0 its H) g' it.r it.u t.1 ∧
        t.2 = it.u.map (·.1) ∧ (YldOp P (id + k) (apF (fun j => decide (j < k)) 0 its fr) (apH (fun j => decide (j < k)) 0 its H) g'.op it.r it.u t.1 ∨ it.u = none ∧ it.r = .sc undef ∧ GuardK (apF (fun j => decide (j < k)) 0 its fr) g'.guard False True ∧ t.1 = []) := by
      intro r u t hy ht2 ht1 hrun
      obtain ⟨its, tl, l1, l2, hK, hall⟩ := runD_res hrun
      refine ⟨⟨g.dst, r, u⟩ :: its, t :: tl, by simp [l1], by simp [l2], ?_, fun k g' hk => ?_⟩
      · simp only [apF, apH, if_true]
        rw [apF_shift, apH_shift]
        simpa using hK
      · have hF0 : apF (fun j => decide (j < 0)) 0 (⟨g.dst, r, u⟩ :: its) fr = fr := by
          have : (fun j : Nat => decide (j < 0)) = fun _ => false := by funext j; simp
          rw [this]; exact apF_none _ _ _
        have hH0 : apH (fun j => decide (j < 0)) 0 (⟨g.dst, r, u⟩ :: its) H = H := by
          have : (fun j : Nat => decide (j < 0)) = fun _ => false := by funext j; simp
          rw [this]; exact apH_none _ _ _
        cases k with
        | zero =>
          simp at hk
          subst hk
          refine ⟨_, _, rfl, rfl, rfl, ?_⟩
          rw [hF0, hH0]
          exact ⟨hy, ht2, ht1⟩
        | succ k =>
          obtain ⟨it, t', e1, e2, e3, e4, e5, e6⟩ := hall k g' (by simpa using hk)
          have hFk : apF (fun j => decide (j < k + 1)) 0 (⟨g.dst, r, u⟩ :: its) fr = apF (fun j => decide (j < k)) 0 its (putF fr g.dst r) := by
            simp only [apF]
            rw [apF_shift]
            simp
          have hHk : apH (fun j => decide (j < k + 1)) 0 (⟨g.dst, r, u⟩ :: its) H = apH (fun j => decide (j < k)) 0 its (putH H u) := by
            simp only [apH]
            rw [apH_shift]
            simp
          refine ⟨it, t', by simpa using e1, by simpa using e2, e3, ?_⟩
          rw [hFk, hHk, show id + (k + 1) = id + 1 + k by omega]
          exact ⟨e4, e5, e6⟩
    simp only [RunD] at h
    unfold GuardK at h
    split at h
    · rename_i hg
      obtain ⟨r, u, S, h1, h2⟩ := h.yld
      exact cont r u (S, u.map (·.1)) (by simp only [YldG, hg, GuardK]; exact h1) rfl (.inl h1) h2
    · rename_i d want hg
      split at h
      · rename_i t ht
        split at h
        · rename_i htw
          obtain ⟨r, u, S, h1, h2⟩ := h.yld
          exact cont r u (S, u.map (·.1)) (by simp only [YldG, hg, GuardK, ht]; rw [if_pos htw]; exact h1) rfl (.inl h1) h2
        · rename_i htw
          exact cont (.sc undef) none ([], none) (by simp only [YldG, hg, GuardK, ht]; rw [if_neg htw]; simp) rfl (.inr ⟨rfl, rfl, by simp only [hg, GuardK, ht]; rw [if_neg htw]; trivial, rfl⟩) h
      · rename_i v hv ht
        have hB : ∀ A B : Prop, GuardK fr g.guard A B = B := by
          intro A B
          simp only [hg, GuardK, ht]
          try (split <;> first | rfl | (exfalso; rename_i heq; cases heq; exact absurd rfl (hv _)))
        exact cont (.sc undef) none ([], none) (by rw [YldG, hB]; exact ⟨rfl, rfl⟩) rfl (.inr ⟨rfl, rfl, by rw [hB]; trivial, rfl⟩) h
      · exact h.elim
end Go.Abs
