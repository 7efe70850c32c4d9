/- From the model's operations to ours: what each step does, once for all programs. First half: operations that only look. -/
import Derived.Test.YtliabecchkolgaaAbsB
import Derived.ProofKit
namespace Go.Abs
open Go.RowKit

def FR (c : Cx) (fr : Fr) (tmps : Array Value) : Prop := ∀ t, VR c (getF fr t) (tmps.getD t undef)

/-- The next context: names that were given out stay given out. -/
def nxt (c : Cx) (id : Nat) (ρ : Nat → Option (Nat × Nat × Nat)) (H : Nat → Option Blk) (w : World) : Cx := ⟨ρ, H, fun x => c.U x ∨ x = id, w, c.M0⟩

/-- The operation goes through, and leaves what 'r' says; own memory is then 'H'. -/
def Goes (P : Program) (o : Oper) (a : Act) (w0 : World) (c : Cx) (id : Nat) (r : AV) (H : Nat → Option Blk) : Prop :=
  ∀ (K : Act → World → Prop) (Q : Exit → Act → World → Prop), (∀ v ρ w, Sim w0 (nxt c id ρ H w) → c.le (nxt c id ρ H w) → VR (nxt c id ρ H w) r v → K (a.put o.dst v) w) → o.wp P a c.w K Q

section
variable {P : Program} {o : Oper} {a : Act} {w0 : World} {c : Cx} {id : Nat} {fr : Fr}

theorem nxt_same (h : Sim w0 c) : Sim w0 (nxt c id c.ρ c.H c.w) ∧ c.le (nxt c id c.ρ c.H c.w) := h.used (U := fun x => c.U x ∨ x = id) fun _ h => .inl h

theorem goes_value {r : AV} {v : Value} (h : Sim w0 c) (hr : (execOp a.eval o).run P c.w = .ok (.value v) c.w) (hv : VR c r v) : Goes P o a w0 c id r c.H := by
  intro K Q hK
  unfold Oper.wp
  rw [hr, Oper.upon_value]
  obtain ⟨h1, h2⟩ := nxt_same (id := id) h
  exact hK v c.ρ c.w h1 h2 (VR.keep h2 hv)

theorem run_v (s : Sem Value) (w : World) : (do pure (Next.value (← s)) : Sem Next).run P w = (s.run P w).andThen fun v w' => .ok (.value v) w' := by
  simp

def lowOpd : Operand → Option Opd
  | .tmp t => some (.t t)
  | .const v => some (.c v)
  | .func f => some (.f f)
  | .global _ => none

theorem evR {x : Operand} {y : Opd} (hF : FR c fr a.tmps) (h : lowOpd x = some y) : VR c (ev fr y) (a.eval x) := by
  cases x <;> simp only [lowOpd, Option.some.injEq, reduceCtorEq] at h
  · subst h; exact hF _
  · subst h; simp only [ev, Act.eval]; rw [VR]
  · subst h; simp only [ev, Act.eval]; rw [VR]; exact ⟨#[], #[], rfl, by rw [VRs], by rw [VRs]⟩

def aggT (P : Program) (t : TypeId) : Option Bool :=
  match P.underlying t with
  | some (.struct _) => some true
  | some (.array _ _) => some true
  | some _ => some false
  | none => none
def szT (P : Program) (t : TypeId) : Option Nat := (P.info? t).map (·.size)
/-- Size, kind and zero cells of a type. -/
def zT (P : Program) (t : TypeId) : Option (Nat × Bool × List Value) :=
  match P.info? t, aggT P t with
  | some i, some ag => match i.zero with
    | some (.agg cs) => if ag && cs.size == i.size && decide (0 < i.size) && cs.all (·.oneCell') then some (i.size, true, cs.toList) else none
    | some v => if !ag && i.size == 1 && v.oneCell' then some (1, false, [v]) else none
    | none => none
  | _, _ => none

theorem run_isAgg {t : TypeId} {ag : Bool} (h : aggT P t = some ag) (w : World) : (isAgg t).run P w = .ok ag w := by
  unfold aggT at h
  cases hu : P.underlying t with
  | none => rw [hu] at h; simp at h
  | some d =>
    rw [hu] at h
    unfold isAgg
    simp only [Sem.run_bind, run_underlying hu, Result.andThen_ok]
    cases d <;> simp only [Option.some.injEq] at h <;> subst h <;> rfl
theorem run_sizeOf {t : TypeId} {k : Nat} (h : szT P t = some k) (w : World) : (sizeOf t).run P w = .ok k w := by
  unfold szT at h
  cases hi : P.info? t with
  | none => rw [hi] at h; simp at h
  | some i => rw [hi] at h; simp at h; simp [sizeOf, typeInfo, hi, h]

/-- A value that fits is one cell, or its cells are. -/
theorem VR.oneC {x : AV} {v : Value} (h : VR c x v) (ho : one x = true) : v.oneCell' = true := by
  cases x <;> simp only [one, Bool.false_eq_true] at ho <;> rw [VR] at h
  · subst h; exact ho
  · obtain ⟨_, _, rfl, _⟩ := h; rfl
  · obtain ⟨_, _, _, _, rfl, _⟩ := h; rfl
  · obtain ⟨_, _, _, rfl, _⟩ := h; rfl
  · obtain ⟨_, _, _, rfl, _⟩ := h; rfl
  · obtain ⟨_, rfl⟩ := h; rfl
  · obtain ⟨_, _, rfl, _⟩ := h; rfl
  · obtain ⟨_, rfl, _⟩ := h; rfl
  · exact h.elim
  · obtain ⟨_, rfl⟩ := h; rfl
  · obtain ⟨_, _, _, _, rfl, _⟩ := h; rfl
theorem cells_one {v : Value} (h : v.oneCell' = true) : v.cells = #[v] := by cases v <;> first | rfl | simp [Value.oneCell'] at h
theorem VRs.length {as : List AV} : ∀ {vs : List Value}, VRs c as vs → vs.length = as.length := by
  induction as with
  | nil => intro vs h; rw [VRs] at h; simp [h]
  | cons x as ih => intro vs h; rw [VRs] at h; obtain ⟨v, vs', rfl, _, h2⟩ := h; simp [ih h2]
theorem VRs.get {as : List AV} : ∀ {vs : List Value}, VRs c as vs → ∀ i (_ : i < as.length), ∃ v, vs[i]? = some v ∧ VR c (as.getD i .any) v := by
  induction as with
  | nil => intro vs _ i hi; simp at hi
  | cons x as ih =>
    intro vs h i hi
    rw [VRs] at h
    obtain ⟨v, vs', rfl, h1, h2⟩ := h
    cases i with
    | zero => exact ⟨v, rfl, by simpa using h1⟩
    | succ i => simpa using ih h2 i (by simpa using hi)
theorem VRs.mk {as : List AV} : ∀ {vs : List Value}, vs.length = as.length → (∀ i, i < as.length → ∀ v, vs[i]? = some v → VR c (as.getD i .any) v) → VRs c as vs := by
  induction as with
  | nil => intro vs hl _; rw [VRs]; exact List.eq_nil_of_length_eq_zero hl
  | cons x as ih =>
    intro vs hl h
    cases vs with
    | nil => simp at hl
    | cons v vs =>
      rw [VRs]
      refine ⟨v, vs, rfl, by simpa using h 0 (by simp) v rfl, ih (by simpa using hl) fun i hi u hu => ?_⟩
      simpa using h (i + 1) (by simpa using hi) u (by simpa using hu)
theorem VRs.drop {as : List AV} (n : Nat) : ∀ {vs : List Value}, VRs c as vs → VRs c (as.drop n) (vs.drop n) := by
  induction n generalizing as with
  | zero => intro vs h; simpa using h
  | succ n ih =>
    intro vs h
    cases as with
    | nil => rw [VRs] at h; subst h; simp; rw [VRs]
    | cons x as => rw [VRs] at h; obtain ⟨v, vs', rfl, _, h2⟩ := h; simpa using ih h2
theorem VRs.take {as : List AV} (n : Nat) : ∀ {vs : List Value}, VRs c as vs → VRs c (as.take n) (vs.take n) := by
  induction n generalizing as with
  | zero => intro vs _; simp; rw [VRs]
  | succ n ih =>
    intro vs h
    cases as with
    | nil => rw [VRs] at h; subst h; simp; rw [VRs]
    | cons x as => rw [VRs] at h; obtain ⟨v, vs', rfl, h1, h2⟩ := h; simp; rw [VRs]; exact ⟨v, _, rfl, h1, ih h2⟩
theorem VRs.append {as bs : List AV} {us : List Value} (h2 : VRs c bs us) : ∀ {vs : List Value}, VRs c as vs → VRs c (as ++ bs) (vs ++ us) := by
  induction as with
  | nil => intro vs h; rw [VRs] at h; subst h; simpa using h2
  | cons x as ih => intro vs h; rw [VRs] at h; obtain ⟨v, vs', rfl, h1, h3⟩ := h; simp; rw [VRs]; exact ⟨v, _, rfl, h1, ih h3⟩
theorem VRs.sc (vs : List Value) : VRs c (vs.map .sc) vs := by
  induction vs with
  | nil => simp; rw [VRs]
  | cons v vs ih => simp; rw [VRs]; exact ⟨v, vs, rfl, by rw [VR], ih⟩
theorem allOne_spec {as : List AV} (h : allOne as = true) : ∀ i, i < as.length → one (as.getD i .any) = true := by
  induction as with
  | nil => intro i hi; simp at hi
  | cons x as ih =>
    simp only [allOne, Bool.and_eq_true] at h
    intro i hi
    cases i with
    | zero => simpa using h.1
    | succ i => simpa using ih h.2 i (by simpa using hi)
theorem VRs.ones {as : List AV} {vs : List Value} (h : VRs c as vs) (ho : allOne as = true) : ∀ v ∈ vs, v.oneCell' = true := by
  intro v hv
  obtain ⟨i, hi, rfl⟩ := List.mem_iff_getElem.1 hv
  have hl := h.length
  obtain ⟨u, hu, hr⟩ := h.get i (by omega)
  rw [List.getElem?_eq_getElem hi] at hu
  cases hu
  exact hr.oneC (allOne_spec ho i (by omega))
/-- The cells that a value is stored as. -/
theorem VR.cells {x : AV} {v : Value} {cs : List AV} (h : VR c x v) (hc : cellsOf x = some cs) : VRs c cs v.cells.toList ∧ ∀ u ∈ v.cells.toList, u.oneCell' = true := by
  by_cases ha : ∃ ys, x = .agg ys
  · obtain ⟨ys, rfl⟩ := ha
    simp only [cellsOf, Option.ite_none_right_eq_some, Option.some.injEq] at hc
    obtain ⟨ho, rfl⟩ := hc
    rw [VR] at h
    obtain ⟨vs, rfl, hr⟩ := h
    exact ⟨hr, hr.ones ho⟩
  · have h1 : one x = true ∧ cs = [x] := by
      cases x <;> simp_all [cellsOf]
    obtain ⟨h1, rfl⟩ := h1
    have h2 := h.oneC h1
    rw [cells_one h2]
    refine ⟨by rw [VRs]; exact ⟨v, [], rfl, h, by rw [VRs]⟩, by simpa using h2⟩

/-! ### loads -/
theorem run_loadVar_at {t : TypeId} {ag : Bool} {k : Nat} (hg : aggT P t = some ag) (hk : szT P t = some k) (w : World) (blk off : Nat) (cs : List Value) (hl : cs.length = k)
    (hc : ∀ j, j < k → w.cell? ⟨blk, off + j, none⟩ = cs[j]?) (v : Value) (hv : if ag then v = .agg cs.toArray else k = 1 ∧ cs = [v]) :
    (loadVar t ⟨blk, off, none⟩).run P w = .ok v w := by
  unfold loadVar
  simp only [Sem.run_bind, run_isAgg hg, Result.andThen_ok]
  have hadd : ∀ j, (⟨blk, off, none⟩ : Addr).add j = ⟨blk, off + j, none⟩ := fun j => Addr.add_lit _ _ _
  cases ag with
  | true =>
    simp only [if_true] at hv ⊢
    subst hv
    simp only [Sem.run_bind, run_sizeOf hk, Result.andThen_ok]
    rw [← hl, run_loadCells_list w _ cs]
    · simp
    · intro j u hu
      rw [hadd, hc j (by have := (List.getElem?_eq_some_iff.1 hu).1; omega), hu]
  | false =>
    simp only [Bool.false_eq_true, if_false] at hv ⊢
    obtain ⟨rfl, rfl⟩ := hv
    have := hc 0 (by omega)
    simp at this
    simp [run_load, this]

theorem load_run {t : TypeId} {ag : Bool} {k : Nat} (hg : aggT P t = some ag) (hk : szT P t = some k)
    {blk off : Nat} {e r : AV} {sz i : Nat} {v : Value} (hat : At c.w blk off sz v) (hv : VR c e v) (hoff : i < sz) (hr : ldE ag k e sz i = some r) (hk1 : ag = false → k = 1) :
    ∃ u, (loadVar t ⟨blk, off + i, none⟩).run P c.w = .ok u c.w ∧ VR c r u := by
  obtain ⟨h1, h2, h3⟩ := hat
  have key : ∃ cs u, cs.length = k ∧ (∀ j, j < k → c.w.cell? ⟨blk, off + i + j, none⟩ = cs[j]?) ∧ (if ag then u = Value.agg cs.toArray else k = 1 ∧ cs = [u]) ∧ VR c r u := by
    cases ag with
    | true =>
      simp only [ldE, if_true] at hr ⊢
      split at hr
      · rename_i hw
        obtain ⟨rfl, rfl⟩ := hw
        cases e <;> simp only [Option.some.injEq, reduceCtorEq] at hr
        subst hr
        have hv' := hv
        rw [VR] at hv'
        obtain ⟨vs, rfl, hrs⟩ := hv'
        exact ⟨vs.toList, _, by simpa [Value.cells] using h1, fun j hj => by simpa [Value.cells] using h2 j hj, by simp, hv⟩
      · cases e <;> simp only [reduceCtorEq, Option.ite_none_right_eq_some, Option.some.injEq] at hr
        obtain ⟨hle, rfl⟩ := hr
        have hv' := hv
        rw [VR] at hv'
        obtain ⟨vs, rfl, hrs⟩ := hv'
        have hlen := hrs.length
        simp only [Value.cells] at h1 h2
        refine ⟨(vs.toList.drop i).take k, _, ?_, fun j hj => ?_, rfl, ?_⟩
        · simp only [List.length_take, List.length_drop]; omega
        · rw [List.getElem?_take, if_pos hj, List.getElem?_drop, Nat.add_assoc, h2 (i + j) (by simp at hlen; omega)]
          simp
        · rw [VR]
          exact ⟨_, rfl, by simpa using (hrs.drop i).take k⟩
    | false =>
      simp only [ldE, Bool.false_eq_true, if_false] at hr ⊢
      have hk1 : k = 1 := hk1 rfl
      subst hk1
      have hi : ∃ u, v.cells[i]? = some u := ⟨_, Array.getElem?_eq_getElem (by omega)⟩
      obtain ⟨u, hu⟩ := hi
      refine ⟨[u], u, rfl, fun j hj => ?_, ⟨rfl, rfl⟩, ?_⟩
      · have : j = 0 := by omega
        subst this
        simpa [hu] using h2 i hoff
      · by_cases ha : ∃ ys, e = .agg ys
        · obtain ⟨ys, rfl⟩ := ha
          simp only [Option.some.injEq] at hr
          subst hr
          rw [VR] at hv
          obtain ⟨vs, rfl, hrs⟩ := hv
          simp only [Value.cells] at hu h1
          obtain ⟨u', hu', hr'⟩ := hrs.get i (by have := hrs.length; simp at this; omega)
          have : u' = u := by
            have h4 : vs.toList[i]? = vs[i]? := by simp
            rw [h4, hu] at hu'
            exact (Option.some.inj hu').symm
          subst this
          exact hr'
        · by_cases hany : e = .any
          · subst hany
            simp only [Option.some.injEq] at hr
            subst hr
            rw [VR]; trivial
          · have hone : Abs.one e = true ∧ r = e := by
              cases e <;> first | exact absurd rfl hany | exact absurd ⟨_, rfl⟩ ha | (simp only [Option.ite_none_right_eq_some, Option.some.injEq] at hr; exact ⟨hr.1, hr.2.symm⟩)
            obtain ⟨hone, rfl⟩ := hone
            have hc := cells_one (hv.oneC hone)
            rw [hc] at hu h1
            simp at h1
            have : i = 0 := by omega
            subst this
            simp at hu
            subst hu
            exact hv
  obtain ⟨cs, u, hl, hc, hu, hru⟩ := key
  exact ⟨u, run_loadVar_at hg hk c.w blk (off + i) cs hl hc u hu, hru⟩

theorem goes_load {t : TypeId} {x : Operand} {ag : Bool} {k : Nat} (ho : o.op = .load t x) (hg : aggT P t = some ag) (hk : szT P t = some k) (h : Sim w0 c)
    {blk off : Nat} {e r : AV} {sz i : Nat} {v : Value} (hx : a.eval x = .pointer (some ⟨blk, off + i, none⟩)) (hat : At c.w blk off sz v) (hv : VR c e v) (hoff : i < sz) (hr : ldE ag k e sz i = some r) (hk1 : ag = false → k = 1) :
    Goes P o a w0 c id r c.H := by
  obtain ⟨u, hrun, hru⟩ := load_run (P := P) hg hk hat hv hoff hr hk1
  refine goes_value (v := u) h ?_ hru
  unfold execOp
  simp only [ho, Instr.loadAt, Instr.sureAddr, hx, Sem.run_bind, Sem.run_pure, Result.andThen_ok]
  rw [hrun]
  rfl
end
end Go.Abs
