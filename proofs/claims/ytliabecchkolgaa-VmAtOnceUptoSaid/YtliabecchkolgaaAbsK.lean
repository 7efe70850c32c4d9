/- Runs of code, in the order of the text. -/
import Derived.Test.YtliabecchkolgaaAbsJ
namespace Go.Abs
open Go.RowKit

def lowGs (P : Program) (n : Nat) (ops : Array Oper) : List Oper → Option (List GOp)
  | [] => some []
  | o :: r => match lowOp P o, lowGs P n ops r with
    | some lop, some gs =>
      if (match o.dst with | some d => decide (d < n) | none => true) then
        match o.guard with
        | none => some (⟨o.dst, none, lop⟩ :: gs)
        | some (j, want) => match (ops[j]?).bind (·.dst) with
          | some d => some (⟨o.dst, some (d, want), lop⟩ :: gs)
          | none => none
      else none
    | _, _ => none

def Enterable (P : Program) (f : FuncId) : Prop := ∃ fn, P.funcs[f]? = some fn ∧ fn.body.isSome = true ∧ (fn.name == "runtime.NumGoroutine") = false

/-- A call, seen from a caller with own memory 'H'. -/
def CallH (P : Program) (f : FuncId) (args : List AV) (H : Hp) (id : Nat) (R : AV → Hp → Prop) : Prop :=
  Enterable P f ∧ ∀ (w0 : World) (c : Cx) (vs : List Value), Sim w0 c → c.H = getH H → ¬ c.U id → VRs c args vs →
    Calls P f vs.toArray c.w fun e w' => ∃ v r H' ρ, e = .returned v ∧ R r H' ∧ Sim w0 (nxt c id ρ (getH H') w') ∧ c.le (nxt c id ρ (getH H') w') ∧ VR (nxt c id ρ (getH H') w') r v

def CallK (P : Program) (f : AV) (args : List AV) (H : Hp) (id : Nat) (K : AV → Hp → Prop) : Prop :=
  match f with
  | .fn (.func g) first caps => CallH P g (first ++ args ++ caps) H id K
  | _ => False

/-- A call that may hand back, and write, rows of the caller's own. -/
def CallN (P : Program) (f : FuncId) (args : List AV) (H : Hp) (nx : Nat) (R : AV → Hp → Nat → Prop) : Prop :=
  Enterable P f ∧ ∀ (w0 : World) (c : Cx) (vs : List Value), Sim w0 c → c.H = getH H → (∀ b, c.U b → b < nx) → VRs c args vs →
    Calls P f vs.toArray c.w fun e w' => ∃ v r H' nx' ρ U, e = .returned v ∧ R r H' nx' ∧ (∀ b, U b → b < nx') ∧ Sim w0 ⟨ρ, getH H', U, w', c.M0⟩ ∧ c.le ⟨ρ, getH H', U, w', c.M0⟩ ∧ VR ⟨ρ, getH H', U, w', c.M0⟩ r v

def CallV (P : Program) (f : AV) (args : List AV) (H : Hp) (nx : Nat) (K : AV → Hp → Nat → Prop) : Prop :=
  match f with
  | .fn (.func g) first caps => CallN P g (first ++ args ++ caps) H nx K
  | _ => False

def optK {α : Type} (x : Option α) (K : α → Prop) : Prop :=
  match x with
  | some a => K a
  | none => False
theorem optK_some {α : Type} (a : α) (K : α → Prop) : optK (some a) K = K a := rfl
theorem optK_none {α : Type} (K : α → Prop) : optK none K = False := rfl
theorem optK_map {α β : Type} (f : α → β) (x : Option α) (K : β → Prop) : optK (x.map f) K = optK x fun a => K (f a) := by cases x <;> rfl
theorem optK_ite {α : Type} (p : Prop) [Decidable p] (x : Option α) (K : α → Prop) : optK (if p then x else none) K = (p ∧ optK x K) := by
  by_cases h : p <;> simp [h, optK]

def StepK (P : Program) (id : Nat) (fr : Fr) (H : Hp) (op : LOp) (K : AV → Hp → Prop) : Prop :=
  match op with
  | .call f args => CallK P (ev fr f) (evL fr args) H id K
  | op => optK (stepL id fr H op) fun p => K p.1 (putH H p.2)

def StepN (P : Program) (nx : Nat) (fr : Fr) (H : Hp) (op : LOp) (K : AV → Hp → Nat → Prop) : Prop :=
  match op with
  | .call f args => CallV P (ev fr f) (evL fr args) H nx K
  | op => optK (stepL nx fr H op) fun p => K p.1 (putH H p.2) (nx + 1)

def GuardK (fr : Fr) (g : Option (Nat × Bool)) (A B : Prop) : Prop :=
  match g with
  | none => A
  | some (d, want) => match getF fr d with
    | .sc (.bool t) => if t = want then A else B
    | .sc _ => B
    | _ => False

def RunOps (P : Program) : Nat → List GOp → Fr → Hp → (Fr → Hp → Nat → Prop) → Prop
  | nx, [], fr, H, K => K fr H nx
  | nx, g :: rest, fr, H, K => GuardK fr g.guard (StepN P nx fr H g.op fun r H' nx' => RunOps P nx' rest (putF fr g.dst r) H' K) (RunOps P (nx + 1) rest (putF fr g.dst (.sc undef)) H K)

/-- What holds of a frame and a world. -/
def Track (c0 : Cx) (lo : Nat) (c : Cx) : Prop := (∀ b, c0.U b → b < lo) ∧ c0.le c
def Holds (w0 : World) (M0 : Nat → Prop) (c0 : Cx) (lo n : Nat) (fr : Fr) (H : Hp) (nx : Nat) (a : Act) (w : World) : Prop :=
  a.tmps.size = n ∧ a.defers = [] ∧ ∃ ρ U, (∀ b, U b → b < nx) ∧ Sim w0 ⟨ρ, getH H, U, w, M0⟩ ∧ FR ⟨ρ, getH H, U, w, M0⟩ fr a.tmps ∧ Track c0 lo ⟨ρ, getH H, U, w, M0⟩
theorem Track.to {c0 c c' : Cx} {lo : Nat} (h : Track c0 lo c) (k : c.le c') : Track c0 lo c' := ⟨h.1, h.2.trans k⟩

section
variable {P : Program} {o : Oper} {a : Act} {w0 : World} {c : Cx} {id : Nat} {fr : Fr} {H : Hp} {M0 : Nat → Prop} {n nx lo : Nat} {c0 : Cx}

theorem FR.put {c c' : Cx} {fr : Fr} {a : Act} {d : Option Nat} {r : AV} {v : Value} (h : FR c fr a.tmps) (hle : c.le c') (hv : VR c' r v) (hd : ∀ x, d = some x → x < a.tmps.size) : FR c' (putF fr d r) (a.put d v).tmps := by
  intro t
  cases d with
  | none => exact VR.keep hle (h t)
  | some d =>
    have hlt := hd d rfl
    simp only [putF, getF, Act.put]
    by_cases ht : t = d
    · subst ht
      rw [if_pos rfl]
      simpa [Array.getD, Array.size_setIfInBounds, hlt] using hv
    · rw [if_neg ht]
      have : (a.tmps.setIfInBounds d v).getD t undef = a.tmps.getD t undef := by
        simp [Array.getElem?_setIfInBounds, Ne.symm ht]
      rw [this]
      exact VR.keep hle (h t)

theorem put_size (a : Act) (d : Option Nat) (v : Value) : (a.put d v).tmps.size = a.tmps.size ∧ (a.put d v).defers = a.defers := by
  cases d <;> simp [Act.put]

theorem Holds.next {r : AV} {v : Value} {d : Option Nat} {H' : Hp} {ρ : Nat → Option (Nat × Nat × Nat)} {U : Nat → Prop} {w' : World} {nx' : Nat} (hn : a.tmps.size = n) (hd : a.defers = []) (hU : ∀ b, U b → b < nx') (hF : FR c fr a.tmps) (hT : Track c0 lo c)
    (h1 : Sim w0 ⟨ρ, getH H', U, w', c.M0⟩) (h2 : c.le ⟨ρ, getH H', U, w', c.M0⟩) (h3 : VR ⟨ρ, getH H', U, w', c.M0⟩ r v) (hdst : ∀ x, d = some x → x < n) : Holds w0 c.M0 c0 lo n (putF fr d r) H' nx' (a.put d v) w' := by
  obtain ⟨p1, p2⟩ := put_size a d v
  exact ⟨p1.trans hn, p2.trans hd, ρ, U, hU, h1, hF.put h2 h3 (fun x hx => by rw [hn]; exact hdst x hx), hT.to h2⟩

theorem wp_callN {f : Operand} {args : Array Operand} {tys : Array TypeId} {f' : Opd} {args' : List Opd} (ho : o.op = .call { callee := .value f, args := args, argTypes := tys }) (h1 : lowOpd f = some f') (h2 : lowL args.toList = some args')
    (h : Sim w0 c) (hH : c.H = getH H) (hF : FR c fr a.tmps) (hU : ∀ b, c.U b → b < nx) {R : AV → Hp → Nat → Prop} (hc : CallV P (ev fr f') (evL fr args') H nx R) {K : Act → World → Prop} {Q : Exit → Act → World → Prop}
    (hK : ∀ v r H' nx' ρ U w', R r H' nx' → (∀ b, U b → b < nx') → Sim w0 ⟨ρ, getH H', U, w', c.M0⟩ → c.le ⟨ρ, getH H', U, w', c.M0⟩ → VR ⟨ρ, getH H', U, w', c.M0⟩ r v → K (a.put o.dst v) w') : o.wp P a c.w K Q := by
  have hfv := evR hF h1
  have hav := lowL_spec hF h2
  generalize ev fr f' = A at hc hfv
  cases A <;> simp only [CallV] at hc
  rename_i g first caps
  cases g <;> simp only at hc
  rename_i g
  obtain ⟨⟨fn, e1, e2, e3⟩, hc⟩ := hc
  rw [VR] at hfv
  obtain ⟨ps, qs, hfv, hps, hqs⟩ := hfv
  have hall : VRs c (first ++ evL fr args' ++ caps) (ps.toList ++ args.toList.map a.eval ++ qs.toList) := VRs.append hqs (VRs.append hav hps)
  have hcall := hc w0 c _ h hH hU hall
  obtain ⟨code, hcode⟩ := Option.isSome_iff_exists.1 e2
  unfold Oper.wp execOp
  have hr : ((do let d ← resolve a.eval { callee := .value f, args := args, argTypes := tys } o.type; invoke d.target d.args : Sem Next)).run P c.w = .ok (.enter g (ps.toList ++ args.toList.map a.eval ++ qs.toList).toArray) c.w := by
    simp only [resolve, Sem.run_bind, hfv, Deferred.ofValue, Sem.run_pure, Result.andThen_ok, invoke, callFunc, run_program, e1, e3, hcode, Bool.false_eq_true, if_false, Option.isNone_some]
    congr 2
    apply Array.ext'
    simp
  simp only [ho]
  rw [hr, Oper.upon_enter]
  refine hcall.mono fun e w' hh => ?_
  obtain ⟨v, r, H', nx', ρ, U, rfl, hR, s0, s1, s2, s3⟩ := hh
  exact hK v r H' nx' ρ U w' hR s0 s1 s2 s3

theorem wp_call {f : Operand} {args : Array Operand} {tys : Array TypeId} {f' : Opd} {args' : List Opd} (ho : o.op = .call { callee := .value f, args := args, argTypes := tys }) (h1 : lowOpd f = some f') (h2 : lowL args.toList = some args')
    (h : Sim w0 c) (hH : c.H = getH H) (hF : FR c fr a.tmps) (hid : ¬ c.U id) {R : AV → Hp → Prop} (hc : CallK P (ev fr f') (evL fr args') H id R) {K : Act → World → Prop} {Q : Exit → Act → World → Prop}
    (hK : ∀ v r H' ρ w', R r H' → Sim w0 (nxt c id ρ (getH H') w') → c.le (nxt c id ρ (getH H') w') → VR (nxt c id ρ (getH H') w') r v → K (a.put o.dst v) w') : o.wp P a c.w K Q := by
  have hfv := evR hF h1
  have hav := lowL_spec hF h2
  generalize ev fr f' = A at hc hfv
  cases A <;> simp only [CallK] at hc
  rename_i g first caps
  cases g <;> simp only at hc
  rename_i g
  obtain ⟨⟨fn, e1, e2, e3⟩, hc⟩ := hc
  rw [VR] at hfv
  obtain ⟨ps, qs, hfv, hps, hqs⟩ := hfv
  have hall : VRs c (first ++ evL fr args' ++ caps) (ps.toList ++ args.toList.map a.eval ++ qs.toList) := VRs.append hqs (VRs.append hav hps)
  have hcall := hc w0 c _ h hH hid hall
  obtain ⟨code, hcode⟩ := Option.isSome_iff_exists.1 e2
  unfold Oper.wp execOp
  have hr : ((do let d ← resolve a.eval { callee := .value f, args := args, argTypes := tys } o.type; invoke d.target d.args : Sem Next)).run P c.w = .ok (.enter g (ps.toList ++ args.toList.map a.eval ++ qs.toList).toArray) c.w := by
    simp only [resolve, Sem.run_bind, hfv, Deferred.ofValue, Sem.run_pure, Result.andThen_ok, invoke, callFunc, run_program, e1, e3, hcode, Bool.false_eq_true, if_false, Option.isNone_some]
    congr 2
    apply Array.ext'
    simp
  simp only [ho]
  rw [hr, Oper.upon_enter]
  refine hcall.mono fun e w' hh => ?_
  obtain ⟨v, r, H', ρ, rfl, hR, s1, s2, s3⟩ := hh
  exact hK v r H' ρ w' hR s1 s2 s3

theorem lowOp_call {f' : Opd} {args' : List Opd} (hl : lowOp P o = some (.call f' args')) : ∃ f args tys, o.op = .call { callee := .value f, args := args, argTypes := tys } ∧ lowOpd f = some f' ∧ lowL args.toList = some args' := by
  cases hop : o.op <;> simp only [lowOp, lowEq, hop, reduceCtorEq] at hl
  case call cl =>
    obtain ⟨callee, args, tys⟩ := cl
    cases callee with
    | value f =>
      simp only at hl
      split at hl
      · rename_i f1 q1 g1 g2
        simp only [Option.some.injEq, LOp.call.injEq] at hl
        obtain ⟨rfl, rfl⟩ := hl
        exact ⟨f, args, tys, rfl, g1, g2⟩
      · simp at hl
    | invoke r m => simp at hl
    | builtin b =>
      exfalso
      cases b <;> simp only [reduceCtorEq] at hl
      all_goals (repeat' (split at hl))
      all_goals simp at hl
  all_goals (exfalso; repeat' (split at hl))
  all_goals first | contradiction | (simp at hl; done) | (simp [Option.map_eq_some_iff] at hl; done)

theorem step_wp {op : LOp} (hl : lowOp P o = some op) (h : Sim w0 c) (hH : c.H = getH H) (hF : FR c fr a.tmps) (hid : ¬ c.U id) {R : AV → Hp → Prop} (hs : StepK P id fr H op R) {K : Act → World → Prop} {Q : Exit → Act → World → Prop}
    (hK : ∀ v r H' ρ w', R r H' → Sim w0 (nxt c id ρ (getH H') w') → c.le (nxt c id ρ (getH H') w') → VR (nxt c id ρ (getH H') w') r v → K (a.put o.dst v) w') : o.wp P a c.w K Q := by
  by_cases hcall : ∃ f args, op = .call f args
  · obtain ⟨f', args', rfl⟩ := hcall
    obtain ⟨f, args, tys, ho, g1, g2⟩ := lowOp_call hl
    exact wp_call ho g1 g2 h hH hF hid hs hK
  · have hs' : optK (stepL id fr H op) fun p => R p.1 (putH H p.2) := by
      cases op <;> first | exact hs | exact absurd ⟨_, _, rfl⟩ hcall
    cases hst : stepL id fr H op with
    | none => rw [hst] at hs'; exact hs'.elim
    | some p =>
      obtain ⟨r, u⟩ := p
      rw [hst] at hs'
      have g := step_goes (P := P) hl hst h hH hF hid
      exact g K Q fun v ρ w' s1 s2 s3 => hK v r (putH H u) ρ w' hs' s1 s2 s3

theorem stepN_wp {op : LOp} (hl : lowOp P o = some op) (h : Sim w0 c) (hH : c.H = getH H) (hF : FR c fr a.tmps) (hU : ∀ b, c.U b → b < nx) {R : AV → Hp → Nat → Prop} (hs : StepN P nx fr H op R) {K : Act → World → Prop} {Q : Exit → Act → World → Prop}
    (hK : ∀ v r H' nx' ρ U w', R r H' nx' → (∀ b, U b → b < nx') → Sim w0 ⟨ρ, getH H', U, w', c.M0⟩ → c.le ⟨ρ, getH H', U, w', c.M0⟩ → VR ⟨ρ, getH H', U, w', c.M0⟩ r v → K (a.put o.dst v) w') : o.wp P a c.w K Q := by
  by_cases hcall : ∃ f args, op = .call f args
  · obtain ⟨f', args', rfl⟩ := hcall
    obtain ⟨f, args, tys, ho, g1, g2⟩ := lowOp_call hl
    exact wp_callN ho g1 g2 h hH hF hU hs hK
  · have hs' : optK (stepL nx fr H op) fun p => R p.1 (putH H p.2) (nx + 1) := by
      cases op <;> first | exact hs | exact absurd ⟨_, _, rfl⟩ hcall
    cases hst : stepL nx fr H op with
    | none => rw [hst] at hs'; exact hs'.elim
    | some p =>
      obtain ⟨r, u⟩ := p
      rw [hst] at hs'
      have g := step_goes (P := P) hl hst h hH hF (fun hh => by have := hU _ hh; omega)
      exact g K Q fun v ρ w' s1 s2 s3 => hK v r (putH H u) (nx + 1) ρ _ w' hs' (fun b hb => by
        rcases hb with hb | rfl
        · have := hU b hb; omega
        · omega) s1 s2 s3

theorem runOps_sound {ops : Array Oper} {Q : Exit → Act → World → Prop} {K : Fr → Hp → Nat → Prop} : ∀ {l : List Oper} {gs : List GOp} {nx : Nat} {fr : Fr} {H : Hp} {a : Act} {w : World}, lowGs P n ops l = some gs → Holds w0 M0 c0 lo n fr H nx a w → RunOps P nx gs fr H K →
    (∀ fr' H' nx' a' w', K fr' H' nx' → Holds w0 M0 c0 lo n fr' H' nx' a' w' → Q .normal a' w') → wpList P ops Q l a w
  | [], gs, nx, fr, H, a, w, hl, hh, hr, hK => by
    simp only [lowGs, Option.some.injEq] at hl
    subst hl
    exact hK _ _ _ _ _ hr hh
  | o :: l, gs, nx, fr, H, a, w, hl, hh, hr, hK => by
    simp only [lowGs] at hl
    split at hl
    · rename_i lop gs' h1 h2
      simp only [Option.ite_none_right_eq_some] at hl
      obtain ⟨hd, hl⟩ := hl
      have hdst : ∀ x, o.dst = some x → x < n := fun x hx => by rw [hx] at hd; simpa using hd
      obtain ⟨hn, hde, ρ, U, hU, hS, hF, hT⟩ := hh
      have hskip : Holds w0 M0 c0 lo n (putF fr o.dst (.sc undef)) H (nx + 1) (a.put o.dst undef) w :=
        Holds.next (c := ⟨ρ, getH H, U, w, M0⟩) hn hde (fun b hb => by have := hU b hb; omega) hF hT hS (Cx.le.refl _) (by rw [VR]) hdst
      have hdo : StepN P nx fr H lop (fun r H' nx' => RunOps P nx' gs' (putF fr o.dst r) H' K) → o.wp P a w (wpList P ops Q l) Q := fun hs =>
        stepN_wp (c := ⟨ρ, getH H, U, w, M0⟩) h1 hS rfl hF hU hs fun v r H' nx' ρ' U' w' hR s0 s1 s2 s3 =>
          runOps_sound h2 (Holds.next (c := ⟨ρ, getH H, U, w, M0⟩) hn hde s0 hF hT s1 s2 s3 hdst) hR hK
      cases hg : o.guard with
      | none =>
        rw [hg] at hl
        simp only [Option.some.injEq] at hl
        subst hl
        simp only [RunOps, GuardK] at hr
        simp only [wpList, Region.wanted, hg, if_true]
        exact .inl (hdo hr)
      | some gd =>
        obtain ⟨j, want⟩ := gd
        rw [hg] at hl
        simp only at hl
        split at hl
        · rename_i d hdj
          simp only [Option.some.injEq] at hl
          subst hl
          simp only [RunOps, GuardK] at hr
          have hfd := hF d
          simp only [wpList, Region.wanted, hg, yielded, hdj, Option.bind_some]
          split at hr
          · rename_i t ht
            rw [ht, VR] at hfd
            have hsome : a.tmps[d]? = some (.bool t) := by
              rw [Array.getD_eq_getD_getElem?] at hfd
              cases hx : a.tmps[d]? with
              | none => rw [hx] at hfd; cases hfd
              | some y => rw [hx] at hfd; simp at hfd; rw [hfd]
            simp only [hsome]
            by_cases htw : t = want
            · rw [if_pos htw] at hr
              rw [if_pos (by simp [htw])]
              exact .inl (hdo hr)
            · rw [if_neg htw] at hr
              rw [if_neg (by simp [htw])]
              exact runOps_sound h2 hskip hr hK
          · rename_i u hu ht
            rw [ht, VR] at hfd
            have hno : ∀ t, a.tmps[d]? ≠ some (.bool t) := by
              intro t hx
              rw [Array.getD_eq_getD_getElem?, hx] at hfd
              exact hu t hfd.symm
            rw [if_neg]
            · exact runOps_sound h2 hskip hr hK
            · split
              · rename_i b hb; exact absurd hb (hno b)
              · simp
          · exact hr.elim
        · simp at hl
    · simp at hl
end
end Go.Abs
