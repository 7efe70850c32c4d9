/- Code as a whole, run by reduction alone; it is so. -/
import Derived.Test.YtliabecchkolgaaAbsT
namespace Go.Abs
open Go.RowKit

/-- Two ways. -/
structure BoolC (t : Bool) (A B : Prop) : Prop where
  ok : (t = true → A) ∧ (t = false → B)
theorem BoolC.lt {A B : Prop} (h : A) : BoolC true A B := ⟨⟨fun _ => h, fun h => (by cases h)⟩⟩
theorem BoolC.lf {A B : Prop} (h : B) : BoolC false A B := ⟨⟨fun h => (by cases h), fun _ => h⟩⟩
theorem BoolC.of {t : Bool} {A B : Prop} (h1 : t = true → A) (h2 : t = false → B) : BoolC t A B := ⟨⟨h1, h2⟩⟩
/-- Behind a test: both ways, or in one. -/
structure GuardW (t want : Bool) (A B J : Prop) : Prop where
  ok : ((t = want → A) ∧ (t ≠ want → B)) ∨ J
theorem GuardW.tt {A B J : Prop} (h : A) : GuardW true true A B J := ⟨.inl ⟨fun _ => h, fun h => absurd rfl h⟩⟩
theorem GuardW.ff {A B J : Prop} (h : A) : GuardW false false A B J := ⟨.inl ⟨fun _ => h, fun h => absurd rfl h⟩⟩
theorem GuardW.tf {A B J : Prop} (h : B) : GuardW true false A B J := ⟨.inl ⟨fun h => (by cases h), fun _ => h⟩⟩
theorem GuardW.ft {A B J : Prop} (h : B) : GuardW false true A B J := ⟨.inl ⟨fun h => (by cases h), fun _ => h⟩⟩
theorem GuardW.join {t want : Bool} {A B J : Prop} (h : J) : GuardW t want A B J := ⟨.inr h⟩
theorem GuardW.split {t want : Bool} {A B J : Prop} (h1 : t = want → A) (h2 : t = !want → B) : GuardW t want A B J := ⟨.inl ⟨h1, fun h => h2 (by cases t <;> cases want <;> simp_all)⟩⟩

/-- A call. -/
structure CallW (P : Program) (f : FuncId) (args : List AV) (H : Hp) (nx : Nat) (K : AV → Hp → Nat → Prop) : Prop where
  ok : CallN P f args H nx K
/-- A call behind a test: it looks alone. -/
structure CallJ (P : Program) (g : Bool) (f : FuncId) (args : List AV) (H : Hp) (nx : Nat) (K : AV → Prop) : Prop where
  ok : ∃ r, (g = true → ∀ (K' : AV → Hp → Nat → Prop), K' r H (nx + 1) → CallN P f args H nx K') ∧ K r
/-- A call where the order is drawn: it looks at the rows S alone. -/
structure CallE (P : Program) (id : Nat) (f : FuncId) (args : List AV) (H : Hp) (K : AV → Option (Nat × Blk) → List Nat → Prop) : Prop where
  ok : ∃ r u S, PureK P id (.fn (.func f) [] []) args H r u S ∧ K r u S
structure CallF (P : Program) (g : Bool) (id : Nat) (f : FuncId) (args : List AV) (H : Hp) (K : AV → List Nat → Prop) : Prop where
  ok : ∃ r S, (g = true → PureK P id (.fn (.func f) [] []) args H r none S) ∧ K r S

theorem Pure.callN1 {P : Program} {f : FuncId} {args : List AV} {R : AV → Prop} {H : Hp} {nx : Nat} {K : AV → Hp → Nat → Prop} (h : Pure P f args R) (hf : fitL 0 args) (hK : ∀ r, R r → K r H (nx + 1)) : CallN P f args H nx K := by
  have := h.callN (H := H) (nx := nx) (K := fun r H' n => ∃ n', n ≤ n' ∧ K r H' n') hf fun r hr => ⟨_, Nat.le_succ _, hK r hr⟩
  refine ⟨this.1, fun w0 c vs a1 a2 a3 a4 => (this.2 w0 c vs a1 a2 a3 a4).mono ?_⟩
  rintro e w' ⟨v, r, H', nx', ρ, U, he, ⟨n', hn, hR⟩, hU, hrest⟩
  exact ⟨v, r, H', n', ρ, U, he, hR, fun b hb => Nat.lt_of_lt_of_le (hU b hb) hn, hrest⟩
theorem CallW.pure {P : Program} {f : FuncId} {args : List AV} {R : AV → Prop} {H : Hp} {nx : Nat} {K : AV → Hp → Nat → Prop} (h : Pure P f args R) (hf : fitL 0 args) (hK : ∀ r, R r → K r H nx) : CallW P f args H nx K := ⟨h.callN hf hK⟩
theorem CallW.det {P : Program} {f : FuncId} {args : List AV} {r : AV} {H : Hp} {nx : Nat} {K : AV → Hp → Nat → Prop} (h : Pure P f args (fun x => x = r)) (hf : fitL 0 args) (hK : K r H nx) : CallW P f args H nx K := ⟨h.callN hf fun x hx => by rw [hx]; exact hK⟩
theorem CallW.of {P : Program} {f : FuncId} {args : List AV} {H : Hp} {nx : Nat} {R K : AV → Hp → Nat → Prop} (h : CallN P f args H nx R) (hK : ∀ r H' nx', R r H' nx' → K r H' nx') : CallW P f args H nx K := ⟨h.mono hK⟩
theorem CallJ.det {P : Program} {g : Bool} {f : FuncId} {args : List AV} {r : AV} {H : Hp} {nx : Nat} {K : AV → Prop} (h : g = true → Pure P f args (fun x => x = r)) (hf : fitL 0 args) (hK : K r) : CallJ P g f args H nx K :=
  ⟨⟨r, fun hg K' hK' => (h hg).callN1 hf fun x hx => by rw [hx]; exact hK', hK⟩⟩
theorem CallE.det {P : Program} {id : Nat} {f : FuncId} {args : List AV} {H : Hp} {r : AV} {K : AV → Option (Nat × Blk) → List Nat → Prop} (h : Pure P f args (fun x => x = r)) (hf : fitL 0 args) (hK : K r none []) : CallE P id f args H K :=
  ⟨⟨r, none, [], Pure.pureK (by simpa using hf) (by simpa using h), hK⟩⟩
theorem CallF.det {P : Program} {g : Bool} {id : Nat} {f : FuncId} {args : List AV} {H : Hp} {r : AV} {K : AV → List Nat → Prop} (h : g = true → Pure P f args (fun x => x = r)) (hf : fitL 0 args) (hK : K r []) : CallF P g id f args H K :=
  ⟨⟨r, [], fun hg => Pure.pureK (by simpa using hf) (by simpa using h hg), hK⟩⟩
/-- A call that looks at rows of the caller's, and hands back one row of its own making, or none. -/
theorem CallE.fresh {P : Program} {id : Nat} {f : FuncId} {args : List AV} {H : Hp} {r : AV} {u : Option (Nat × Blk)} (S : List Nat) {K : AV → Option (Nat × Blk) → List Nat → Prop}
    (h : ∀ H1, (∀ b ∈ S, getH H1 b = getH H b) → CallH P f args H1 id (fun r' H' => r' = r ∧ H' = putH H1 u)) (hu : ∀ b q, u = some (b, q) → b = id) (hK : K r u S) : CallE P id f args H K :=
  ⟨⟨r, u, S, ⟨by simpa using h, hu⟩, hK⟩⟩

section
variable (P : Program)

noncomputable def WStep (nx : Nat) (R : Raw) (H : Hp) (op : LOp) (K : AV → Hp → Nat → Prop) : Prop :=
  match op with
  | .call f args => fetch none R f fun fv => fetchL none R args fun as => match fv with
    | .fn (.func g) first caps => forceL (first ++ as ++ caps) fun as => CallW P g as H nx K
    | _ => False
  | op => stepW none H R nx op fun r u => K r (putH H u) (nx + 1)
noncomputable def WStepJ (nx : Nat) (g : Bool) (R : Raw) (H : Hp) (op : LOp) (K : AV → Prop) : Prop :=
  match op with
  | .call f args => fetch (some g) R f fun fv => fetchL (some g) R args fun as => match fv with
    | .fn (.func q) first caps => forceL (first ++ as ++ caps) fun as => CallJ P g q as H nx K
    | _ => False
  | op => stepW (some g) H R nx op fun r u => match u with
    | none => K r
    | some _ => False
abbrev WopsT := Nat → Ov → Fr → Hp → (Ov → Hp → Nat → Prop) → Prop
def Wops_nil (nx : Nat) (ov : Ov) (_ : Fr) (H : Hp) (K : Ov → Hp → Nat → Prop) : Prop := K ov H nx
noncomputable def Wops_cons (g : GOp) (_ : List GOp) (ih : WopsT) (nx : Nat) (ov : Ov) (fr : Fr) (H : Hp) (K : Ov → Hp → Nat → Prop) : Prop := match g.guard with
    | none => WStep P nx (rawO ov fr) H g.op fun r H' nx' => ih nx' (putO ov g.dst none r) fr H' K
    | some (d, want) => match getO ov fr d with
      | (none, .sc (.bool t)) => GuardW t want (WStep P nx (rawO ov fr) H g.op fun r H' nx' => ih nx' (putO ov g.dst none r) fr H' K) (ih (nx + 1) (putO ov g.dst none (.sc undef)) fr H K)
          (match want with
           | true => WStepJ P nx t (rawO ov fr) H g.op fun r => ih (nx + 1) (putO ov g.dst (some t) r) fr H K
           | false => WStepJ P nx (!t) (rawO ov fr) H g.op fun r => ih (nx + 1) (putO ov g.dst (some !t) r) fr H K)
      | (some q, .sc (.bool t)) => (match want with
           | true => WStepJ P nx (q && t) (rawO ov fr) H g.op fun r => ih (nx + 1) (putO ov g.dst (some (q && t)) r) fr H K
           | false => WStepJ P nx (q && !t) (rawO ov fr) H g.op fun r => ih (nx + 1) (putO ov g.dst (some (q && !t)) r) fr H K)
      | _ => False
noncomputable def Wops (nx : Nat) (gs : List GOp) (ov : Ov) (fr : Fr) (H : Hp) (K : Ov → Hp → Nat → Prop) : Prop := List.rec (motive := fun _ => WopsT) Wops_nil (Wops_cons P) gs nx ov fr H K

def idsJ (R : Raw) (op : LOp) : List Nat := if op.rd then op.opds.flatMap (fun x => idsA (R x).2) else []
noncomputable def WStepE (id : Nat) (R : Raw) (H : Hp) (op : LOp) (K : AV → Option (Nat × Blk) → List Nat → Prop) : Prop :=
  match op with
  | .call f args => fetch none R f fun fv => fetchL none R args fun as => match fv with
    | .fn (.func g) first caps => forceL (first ++ as ++ caps) fun as => CallE P id g as H K
    | _ => False
  | op => stepW none H R id op fun r u => K r u (idsJ R op)
noncomputable def WStepF (id : Nat) (g : Bool) (R : Raw) (H : Hp) (op : LOp) (K : AV → List Nat → Prop) : Prop :=
  match op with
  | .call f args => fetch (some g) R f fun fv => fetchL (some g) R args fun as => match fv with
    | .fn (.func q) first caps => forceL (first ++ as ++ caps) fun as => CallF P g id q as H K
    | _ => False
  | op => stepW (some g) H R id op fun r u => match u with
    | none => K r (idsJ R op)
    | some _ => False
abbrev WDT := Nat → Ov → Fr → Hp → Tr → (Ov → Hp → Tr → Prop) → Prop
def WD_nil (_ : Nat) (ov : Ov) (_ : Fr) (H : Hp) (tr : Tr) (K : Ov → Hp → Tr → Prop) : Prop := K ov H tr
noncomputable def WD_cons (g : GOp) (_ : List GOp) (ih : WDT) (id : Nat) (ov : Ov) (fr : Fr) (H : Hp) (tr : Tr) (K : Ov → Hp → Tr → Prop) : Prop := match g.guard with
    | none => WStepE P id (rawO ov fr) H g.op fun r u S => ih (id + 1) (putO ov g.dst none r) fr (putH H u) (tr ++ [(S, u.map (·.1))]) K
    | some (d, want) => match getO ov fr d with
      | (none, .sc (.bool t)) => GuardW t want (WStepE P id (rawO ov fr) H g.op fun r u S => ih (id + 1) (putO ov g.dst none r) fr (putH H u) (tr ++ [(S, u.map (·.1))]) K) (ih (id + 1) (putO ov g.dst none (.sc undef)) fr H (tr ++ [([], none)]) K)
          (match want with
           | true => WStepF P id t (rawO ov fr) H g.op fun r S => ih (id + 1) (putO ov g.dst (some t) r) fr H (tr ++ [(S, none)]) K
           | false => WStepF P id (!t) (rawO ov fr) H g.op fun r S => ih (id + 1) (putO ov g.dst (some !t) r) fr H (tr ++ [(S, none)]) K)
      | (some q, .sc (.bool t)) => (match want with
           | true => WStepF P id (q && t) (rawO ov fr) H g.op fun r S => ih (id + 1) (putO ov g.dst (some (q && t)) r) fr H (tr ++ [(S, none)]) K
           | false => WStepF P id (q && !t) (rawO ov fr) H g.op fun r S => ih (id + 1) (putO ov g.dst (some (q && !t)) r) fr H (tr ++ [(S, none)]) K)
      | _ => False
noncomputable def WD (id : Nat) (gs : List GOp) (ov : Ov) (fr : Fr) (H : Hp) (tr : Tr) (K : Ov → Hp → Tr → Prop) : Prop := List.rec (motive := fun _ => WDT) WD_nil (WD_cons P) gs id ov fr H tr K
/-- A list of rows, told one by one. -/
noncomputable def nsW (S : List Nat) : (List Nat → Prop) → Prop := List.rec (motive := fun _ => (List Nat → Prop) → Prop) (fun K => K []) (fun b _ ih K => ih fun S' => K (b :: S')) S
theorem nsW_eq : ∀ (S : List Nat) (K : List Nat → Prop), nsW S K = K S
  | [], _ => rfl
  | b :: S, K => nsW_eq S fun S' => K (b :: S')
def uW (u : Option (Nat × Blk)) (K : Option Nat → Prop) : Prop := match u with
  | none => K none
  | some (b, _) => K (some b)
theorem uW_eq (u : Option (Nat × Blk)) (K : Option Nat → Prop) : uW u K = K (u.map (·.1)) := by
  cases u <;> rfl
noncomputable def WE_cons (g : GOp) (_ : List GOp) (ih : WDT) (id : Nat) (ov : Ov) (fr : Fr) (H : Hp) (tr : Tr) (K : Ov → Hp → Tr → Prop) : Prop := match g.guard with
    | none => WStepE P id (rawO ov fr) H g.op fun r u S => nsW S fun S => uW u fun x => ih (id + 1) (putO ov g.dst none r) fr (putH H u) ((S, x) :: tr) K
    | some (d, want) => match getO ov fr d with
      | (none, .sc (.bool t)) => GuardW t want (WStepE P id (rawO ov fr) H g.op fun r u S => nsW S fun S => uW u fun x => ih (id + 1) (putO ov g.dst none r) fr (putH H u) ((S, x) :: tr) K) (ih (id + 1) (putO ov g.dst none (.sc undef)) fr H (([], none) :: tr) K)
          (match want with
           | true => WStepF P id t (rawO ov fr) H g.op fun r S => nsW S fun S => ih (id + 1) (putO ov g.dst (some t) r) fr H ((S, none) :: tr) K
           | false => WStepF P id (!t) (rawO ov fr) H g.op fun r S => nsW S fun S => ih (id + 1) (putO ov g.dst (some !t) r) fr H ((S, none) :: tr) K)
      | (some q, .sc (.bool t)) => (match want with
           | true => WStepF P id (q && t) (rawO ov fr) H g.op fun r S => nsW S fun S => ih (id + 1) (putO ov g.dst (some (q && t)) r) fr H ((S, none) :: tr) K
           | false => WStepF P id (q && !t) (rawO ov fr) H g.op fun r S => nsW S fun S => ih (id + 1) (putO ov g.dst (some (q && !t)) r) fr H ((S, none) :: tr) K)
      | _ => False
noncomputable def WE (id : Nat) (gs : List GOp) (ov : Ov) (fr : Fr) (H : Hp) (tr : Tr) (K : Ov → Hp → Tr → Prop) : Prop := List.rec (motive := fun _ => WDT) WD_nil (WE_cons P) gs id ov fr H tr K
theorem WE_eq : ∀ (gs : List GOp) (id : Nat) (ov : Ov) (fr : Fr) (H : Hp) (tr : Tr) (K : Ov → Hp → Tr → Prop), WE P id gs ov fr H tr K = WD P id gs ov fr H tr.reverse fun ov H t => K ov H t.reverse
  | [], id, ov, fr, H, tr, K => by
    show K ov H tr = K ov H tr.reverse.reverse
    rw [List.reverse_reverse]
  | g :: gs, id, ov, fr, H, tr, K => by
    have ih := WE_eq gs
    show WE_cons P g gs (fun id ov fr H tr K => WE P id gs ov fr H tr K) id ov fr H tr K = WD_cons P g gs (fun id ov fr H tr K => WD P id gs ov fr H tr K) id ov fr H tr.reverse fun ov H t => K ov H t.reverse
    simp only [WE_cons, WD_cons, nsW_eq, uW_eq, ih, List.reverse_cons]
noncomputable def WS_cons (s : Seg) (_ : List Seg) (ih : WopsT) (nx : Nat) (ov : Ov) (fr : Fr) (H : Hp) (K : Ov → Hp → Nat → Prop) : Prop := match s.ops with
    | [g] => Wops P nx [g] ov fr H fun ov' H' nx' => ih nx' ov' fr H' K
    | gs => WE P nx gs ov fr H [] fun ov' H' tr => (match s.ps with
      | [] => ih (nx + gs.length) ov' fr H' K
      | p :: ps => Ask (farAll tr.reverse (p :: ps)) ∧ ih (nx + gs.length) ov' fr H' K)
noncomputable def WS (nx : Nat) (segs : List Seg) (ov : Ov) (fr : Fr) (H : Hp) (K : Ov → Hp → Nat → Prop) : Prop := List.rec (motive := fun _ => WopsT) Wops_nil (WS_cons P) segs nx ov fr H K

/-- A loop: here the walk stands still. -/
structure LoopW (n lo : Nat) (x : LC) (fr : Fr) (H : Hp) (nx : Nat) (Q : QT) : Prop where
  ok : WL P n lo (.loop x) fr H nx Q

abbrev WT := Fr → Hp → Nat → QT → Prop
def W_skip (fr : Fr) (H : Hp) (nx : Nat) (Q : QT) : Prop := Q .normal fr H nx
noncomputable def W_region (gs : List GOp) (fr : Fr) (H : Hp) (nx : Nat) (Q : QT) : Prop := Wops P nx gs [] fr H fun ov H' nx' => Q .normal (plainO ov fr) H' nx'
noncomputable def W_drawn (segs : List Seg) (fr : Fr) (H : Hp) (nx : Nat) (Q : QT) : Prop := WS P nx segs [] fr H fun ov H' nx' => Q .normal (plainO ov fr) H' nx'
def W_seq (_ _ : LC) (ia ib : WT) (fr : Fr) (H : Hp) (nx : Nat) (Q : QT) : Prop := ia fr H nx (thenK (fun fr H nx => ib fr H nx Q) Q)
def W_cond (c : Opd) (_ _ : LC) (ia ib : WT) (fr : Fr) (H : Hp) (nx : Nat) (Q : QT) : Prop := match ev fr c with
    | .sc (.bool t) => BoolC t (ia fr H nx Q) (ib fr H nx Q)
    | .ab => ia fr H nx Q ∧ ib fr H nx Q
    | _ => False
def W_block (id : Nat) (_ : LC) (ia : WT) (fr : Fr) (H : Hp) (nx : Nat) (Q : QT) : Prop := ia fr H nx (blockQ id Q)
def W_loop (n lo : Nat) (a : LC) (_ : WT) (fr : Fr) (H : Hp) (nx : Nat) (Q : QT) : Prop := LoopW P n lo a fr H nx Q
def W_exit (id : Nat) (fr : Fr) (H : Hp) (nx : Nat) (Q : QT) : Prop := Q (.exit id) fr H nx
def W_ret (fr : Fr) (H : Hp) (nx : Nat) (Q : QT) : Prop := Q .ret fr H nx
noncomputable def W (n lo : Nat) (lc : LC) : WT := LC.rec (motive := fun _ => WT) W_skip (W_region P) (W_drawn P) W_seq W_cond W_block (W_loop P n lo) W_exit W_ret lc
end

section
variable {P : Program}

theorem WStep_sound {nx : Nat} {ov : Ov} {f fr : Fr} {H : Hp} {op : LOp} {K : AV → Hp → Nat → Prop} (hF : FrJ f ov fr) (h : WStep P nx (rawO ov fr) H op K) : StepN P nx f H op K := by
  by_cases hc : ∃ g as, op = .call g as
  · obtain ⟨fo, as, rfl⟩ := hc
    simp only [WStep] at h
    obtain ⟨h1, h2⟩ := fetch_iff h
    obtain ⟨h3, h4⟩ := fetchL_iff h2
    simp only [StepN]
    rw [hF.raw fo (h1 trivial), evL_map (R := rawO ov fr) fun x hx => hF.raw x (h3 trivial x hx)]
    split at h4
    · rename_i he
      rw [he]
      rw [forceL_eq] at h4
      exact h4.ok
    · exact h4.elim
  · have e1 : WStep P nx (rawO ov fr) H op K = stepW none H (rawO ov fr) nx op fun r u => K r (putH H u) (nx + 1) := by cases op <;> first | rfl | exact absurd ⟨_, _, rfl⟩ hc
    have e2 : StepN P nx f H op K = optK (stepL nx f H op) fun p => K p.1 (putH H p.2) (nx + 1) := by cases op <;> first | rfl | exact absurd ⟨_, _, rfl⟩ hc
    rw [e1] at h
    obtain ⟨r, u, h1, h2⟩ := stepW_sound h
    rw [e2, (h2 trivial).2 f fun x hx => hF.raw x hx]
    exact h1
theorem WStepJ_sound {nx : Nat} {g : Bool} {ov : Ov} {fr : Fr} {H : Hp} {op : LOp} {K : AV → Prop} (h : WStepJ P nx g (rawO ov fr) H op K) :
    ∃ r, K r ∧ (g = true → ∀ f, FrJ f ov fr → ∀ K' : AV → Hp → Nat → Prop, K' r H (nx + 1) → StepN P nx f H op K') := by
  by_cases hc : ∃ g as, op = .call g as
  · obtain ⟨fo, as, rfl⟩ := hc
    simp only [WStepJ] at h
    obtain ⟨h1, h2⟩ := fetch_iff h
    obtain ⟨h3, h4⟩ := fetchL_iff h2
    split at h4
    · rename_i he
      rw [forceL_eq] at h4
      obtain ⟨r, h5, h6⟩ := h4.ok
      refine ⟨r, h6, fun hg f hF K' hK' => ?_⟩
      simp only [StepN]
      rw [hF.raw fo (h1 hg), evL_map (R := rawO ov fr) fun x hx => hF.raw x (h3 hg x hx), he]
      exact h5 hg K' hK'
    · exact h4.elim
  · have e1 : WStepJ P nx g (rawO ov fr) H op K = stepW (some g) H (rawO ov fr) nx op fun r u => match u with | none => K r | some _ => False := by cases op <;> first | rfl | exact absurd ⟨_, _, rfl⟩ hc
    rw [e1] at h
    obtain ⟨r, u, h1, h2⟩ := stepW_sound h
    cases u with
    | some p => exact h1.elim
    | none =>
      refine ⟨r, h1, fun hg f hF K' hK' => ?_⟩
      have e2 : StepN P nx f H op K' = optK (stepL nx f H op) fun p => K' p.1 (putH H p.2) (nx + 1) := by cases op <;> first | rfl | exact absurd ⟨_, _, rfl⟩ hc
      rw [e2, (h2 hg).2 f fun x hx => hF.raw x hx]
      exact hK'

theorem Wops_sound : ∀ {gs : List GOp} {nx : Nat} {ov : Ov} {f fr : Fr} {H : Hp} {K : Ov → Hp → Nat → Prop}, FrJ f ov fr → Wops P nx gs ov fr H K → RunOps P nx gs f H (fun f1 H1 nx1 => ∃ ov1, FrJ f1 ov1 fr ∧ K ov1 H1 nx1)
  | [], nx, ov, f, fr, H, K, hF, h => ⟨ov, hF, h⟩
  | g :: gs, nx, ov, f, fr, H, K, hF, h => by
    have join : ∀ {q t : Bool} {d : Nat} {want : Bool}, g.guard = some (d, want) → (q = true → getF f d = .sc (.bool t)) → (q = false → getF f d = .sc undef) → ∀ {gg : Bool}, (gg = true ↔ (q = true ∧ t = want)) →
        (WStepJ P nx gg (rawO ov fr) H g.op fun r => Wops P (nx + 1) gs (putO ov g.dst (some gg) r) fr H K) → RunOps P nx (g :: gs) f H (fun f1 H1 nx1 => ∃ ov1, FrJ f1 ov1 fr ∧ K ov1 H1 nx1) := by
      intro q t d want hg hq1 hq2 gg hgg hJ
      obtain ⟨r, h1, h2⟩ := WStepJ_sound hJ
      simp only [RunOps, hg, GuardK]
      cases q with
      | true =>
        simp only [hq1 rfl]
        by_cases ht : t = want
        · rw [if_pos ht]
          have hgt := hgg.2 ⟨rfl, ht⟩
          exact h2 hgt f hF _ (Wops_sound (hF.putG g.dst (u := r) (fun _ => rfl) fun h => by rw [hgt] at h; cases h) h1)
        · rw [if_neg ht]
          have hgf : gg = false := by cases hgg' : gg <;> simp_all
          exact Wops_sound (hF.putG g.dst (u := .sc undef) (fun h => by rw [hgf] at h; cases h) fun _ => rfl) h1
      | false =>
        simp only [hq2 rfl]
        have hgf : gg = false := by cases hgg' : gg <;> simp_all
        have := Wops_sound (hF.putG g.dst (u := .sc undef) (q := gg) (fun h => by rw [hgf] at h; cases h) fun _ => rfl) h1
        exact this
    have h : Wops_cons P g gs (fun nx ov fr H K => Wops P nx gs ov fr H K) nx ov fr H K := h
    simp only [Wops_cons] at h
    split at h
    · rename_i hg
      simp only [RunOps, hg, GuardK]
      exact (WStep_sound hF h).mono fun r H' nx' hh => Wops_sound (hF.put g.dst r) hh
    · rename_i d want hg
      have hd := hF d
      split at h
      · rename_i t he
        rw [he] at hd
        simp only at hd
        rcases h.ok with ⟨hA, hB⟩ | hJ
        · simp only [RunOps, hg, GuardK, hd]
          by_cases ht : t = want
          · rw [if_pos ht]
            exact (WStep_sound hF (hA ht)).mono fun r H' nx' hh => Wops_sound (hF.put g.dst r) hh
          · rw [if_neg ht]
            exact Wops_sound (hF.put g.dst _) (hB ht)
        · cases want with
          | true => exact join (q := true) hg (fun _ => hd) (fun h => by cases h) (gg := t) (by simp) hJ
          | false => exact join (q := true) hg (fun _ => hd) (fun h => by cases h) (gg := !t) (by simp) hJ
      · rename_i q t he
        rw [he] at hd
        simp only at hd
        cases want with
        | true => exact join hg hd.1 hd.2 (gg := q && t) (by simp) h
        | false => exact join hg hd.1 hd.2 (gg := q && !t) (by simp) h
      · exact h.elim

/-- What a step touches, seen through what is written: it may be less in truth. -/
def TrJ : Tr → Tr → Prop
  | [], [] => True
  | a :: r, b :: s => (∀ x ∈ a.1, x ∈ b.1) ∧ a.2 = b.2 ∧ TrJ r s
  | _, _ => False
theorem TrJ.snoc {a b : List Nat} {u : Option Nat} (h1 : ∀ x ∈ a, x ∈ b) : ∀ {r s : Tr}, TrJ r s → TrJ (r ++ [(a, u)]) (s ++ [(b, u)])
  | [], [], _ => ⟨h1, rfl, trivial⟩
  | x :: r, y :: s, h => ⟨h.1, h.2.1, TrJ.snoc h1 h.2.2⟩
  | [], _ :: _, h => h.elim
  | _ :: _, [], h => h.elim
theorem TrJ.get : ∀ {r s : Tr}, TrJ r s → ∀ k, (∀ x ∈ (r.getD k ([], none)).1, x ∈ (s.getD k ([], none)).1) ∧ (r.getD k ([], none)).2 = (s.getD k ([], none)).2
  | [], [], _, k => by simp
  | x :: r, y :: s, h, 0 => ⟨h.1, h.2.1⟩
  | x :: r, y :: s, h, k + 1 => by simpa using TrJ.get h.2.2 k
  | [], _ :: _, h, _ => h.elim
  | _ :: _, [], h, _ => h.elim
theorem TrJ.far {r s : Tr} (h : TrJ r s) {ps : List (Nat × Nat)} (hf : farAll s ps) : farAll r ps := by
  intro p hp
  obtain ⟨h1, h2, h3⟩ := hf p hp
  obtain ⟨a1, a2⟩ := h.get p.1
  obtain ⟨b1, b2⟩ := h.get p.2
  exact ⟨fun b hb hm => h1 b (by rw [← a2]; exact hb) (b1 b hm), fun b hb hm => h2 b (by rw [← b2]; exact hb) (a1 b hm), fun b hb => h3 b ⟨by rw [← a2]; exact hb.1, by rw [← b2]; exact hb.2⟩⟩

theorem idsJ_of {ov : Ov} {f fr : Fr} {op : LOp} (hF : FrJ f ov fr) (h : op.rd = true → ∀ y ∈ op.opds, okO (rawO ov fr) y) : ∀ x ∈ idsOp f op, x ∈ idsJ (rawO ov fr) op := by
  intro x hx
  unfold idsOp at hx
  unfold idsJ
  split at hx
  · rename_i hr
    rw [if_pos hr]
    obtain ⟨y, hy, hm⟩ := List.mem_flatMap.1 hx
    exact List.mem_flatMap.2 ⟨y, hy, by rw [← hF.raw y (h hr y hy)]; exact hm⟩
  · cases hx
theorem WStepE_sound {id : Nat} {ov : Ov} {fr : Fr} {H : Hp} {op : LOp} {K : AV → Option (Nat × Blk) → List Nat → Prop} (h : WStepE P id (rawO ov fr) H op K) {f : Fr} (hF : FrJ f ov fr) :
    StepD P id f H op (fun r u S' => ∃ S, (∀ x ∈ S', x ∈ S) ∧ K r u S) := by
  by_cases hc : ∃ g as, op = .call g as
  · obtain ⟨fo, as, rfl⟩ := hc
    simp only [WStepE] at h
    obtain ⟨h1, h2⟩ := fetch_iff h
    obtain ⟨h3, h4⟩ := fetchL_iff h2
    split at h4
    · rename_i he
      rw [forceL_eq] at h4
      obtain ⟨r, u, S, h5, h6⟩ := h4.ok
      refine ⟨r, u, S, ?_, S, fun _ h => h, h6⟩
      rw [hF.raw fo (h1 trivial), evL_map (R := rawO ov fr) fun x hx => hF.raw x (h3 trivial x hx), he]
      simpa [PureK] using h5
    · exact h4.elim
  · have e1 : WStepE P id (rawO ov fr) H op K = stepW none H (rawO ov fr) id op fun r u => K r u (idsJ (rawO ov fr) op) := by cases op <;> first | rfl | exact absurd ⟨_, _, rfl⟩ hc
    rw [e1] at h
    obtain ⟨r, u, h1, h2⟩ := stepW_sound h
    obtain ⟨h3, h4⟩ := h2 trivial
    have e2 : ∀ K', StepD P id f H op K' = optK (stepL id f H op) fun p => K' p.1 p.2 (idsOp f op) := by intro K'; cases op <;> first | rfl | exact absurd ⟨_, _, rfl⟩ hc
    rw [e2, h4 f fun x hx => hF.raw x hx]
    exact ⟨_, idsJ_of hF h3, h1⟩
theorem WStepF_sound {id : Nat} {g : Bool} {ov : Ov} {fr : Fr} {H : Hp} {op : LOp} {K : AV → List Nat → Prop} (h : WStepF P id g (rawO ov fr) H op K) :
    ∃ r S, K r S ∧ (g = true → ∀ f, FrJ f ov fr → ∀ K' : AV → Option (Nat × Blk) → List Nat → Prop, (∀ S', (∀ x ∈ S', x ∈ S) → K' r none S') → StepD P id f H op K') := by
  by_cases hc : ∃ g as, op = .call g as
  · obtain ⟨fo, as, rfl⟩ := hc
    simp only [WStepF] at h
    obtain ⟨h1, h2⟩ := fetch_iff h
    obtain ⟨h3, h4⟩ := fetchL_iff h2
    split at h4
    · rename_i he
      rw [forceL_eq] at h4
      obtain ⟨r, S, h5, h6⟩ := h4.ok
      refine ⟨r, S, h6, fun hg f hF K' hK' => ⟨r, none, S, ?_, hK' S fun _ h => h⟩⟩
      rw [hF.raw fo (h1 hg), evL_map (R := rawO ov fr) fun x hx => hF.raw x (h3 hg x hx), he]
      simpa [PureK] using h5 hg
    · exact h4.elim
  · have e1 : WStepF P id g (rawO ov fr) H op K = stepW (some g) H (rawO ov fr) id op fun r u => match u with | none => K r (idsJ (rawO ov fr) op) | some _ => False := by cases op <;> first | rfl | exact absurd ⟨_, _, rfl⟩ hc
    rw [e1] at h
    obtain ⟨r, u, h1, h2⟩ := stepW_sound h
    cases u with
    | some p => exact h1.elim
    | none =>
      refine ⟨r, _, h1, fun hg f hF K' hK' => ?_⟩
      obtain ⟨h3, h4⟩ := h2 hg
      have e2 : StepD P id f H op K' = optK (stepL id f H op) fun p => K' p.1 p.2 (idsOp f op) := by cases op <;> first | rfl | exact absurd ⟨_, _, rfl⟩ hc
      rw [e2, h4 f fun x hx => hF.raw x hx]
      exact hK' _ (idsJ_of hF h3)

theorem WD_sound : ∀ {gs : List GOp} {id : Nat} {ov : Ov} {f fr : Fr} {H : Hp} {tr tr' : Tr} {K : Ov → Hp → Tr → Prop}, FrJ f ov fr → TrJ tr' tr → WD P id gs ov fr H tr K → RunD P id gs f H tr' (fun f1 H1 tr1 => ∃ ov1 trj, FrJ f1 ov1 fr ∧ TrJ tr1 trj ∧ K ov1 H1 trj)
  | [], id, ov, f, fr, H, tr, tr', K, hF, hT, h => ⟨ov, tr, hF, hT, h⟩
  | g :: gs, id, ov, f, fr, H, tr, tr', K, hF, hT, h => by
    have join : ∀ {q t : Bool} {d : Nat} {want : Bool}, g.guard = some (d, want) → (q = true → getF f d = .sc (.bool t)) → (q = false → getF f d = .sc undef) → ∀ {gg : Bool}, (gg = true ↔ (q = true ∧ t = want)) →
        (WStepF P id gg (rawO ov fr) H g.op fun r S => WD P (id + 1) gs (putO ov g.dst (some gg) r) fr H (tr ++ [(S, none)]) K) → RunD P id (g :: gs) f H tr' (fun f1 H1 tr1 => ∃ ov1 trj, FrJ f1 ov1 fr ∧ TrJ tr1 trj ∧ K ov1 H1 trj) := by
      intro q t d want hg hq1 hq2 gg hgg hJ
      obtain ⟨r, S, h1, h2⟩ := WStepF_sound hJ
      simp only [RunD, hg, GuardK]
      cases q with
      | true =>
        simp only [hq1 rfl]
        by_cases ht : t = want
        · rw [if_pos ht]
          have hgt := hgg.2 ⟨rfl, ht⟩
          refine h2 hgt f hF _ fun S' hS => ?_
          exact WD_sound (hF.putG g.dst (u := r) (fun _ => rfl) fun h => by rw [hgt] at h; cases h) (hT.snoc hS) h1
        · rw [if_neg ht]
          have hgf : gg = false := by cases hgg' : gg <;> simp_all
          exact WD_sound (hF.putG g.dst (u := .sc undef) (fun h => by rw [hgf] at h; cases h) fun _ => rfl) (hT.snoc (a := []) (b := S) (fun _ h => by cases h)) h1
      | false =>
        simp only [hq2 rfl]
        have hgf : gg = false := by cases hgg' : gg <;> simp_all
        have := WD_sound (hF.putG g.dst (u := .sc undef) (q := gg) (fun h => by rw [hgf] at h; cases h) fun _ => rfl) (hT.snoc (a := []) (b := S) (fun _ h => by cases h)) h1
        exact this
    have h : WD_cons P g gs (fun id ov fr H tr K => WD P id gs ov fr H tr K) id ov fr H tr K := h
    simp only [WD_cons] at h
    split at h
    · rename_i hg
      simp only [RunD, hg, GuardK]
      refine (WStepE_sound h hF).mono ?_
      rintro r u S' ⟨S, hS, hh⟩
      exact WD_sound (hF.put g.dst r) (hT.snoc hS) hh
    · rename_i d want hg
      have hd := hF d
      split at h
      · rename_i t he
        rw [he] at hd
        simp only at hd
        rcases h.ok with ⟨hA, hB⟩ | hJ
        · simp only [RunD, hg, GuardK, hd]
          by_cases ht : t = want
          · rw [if_pos ht]
            refine (WStepE_sound (hA ht) hF).mono ?_
            rintro r u S' ⟨S, hS, hh⟩
            exact WD_sound (hF.put g.dst r) (hT.snoc hS) hh
          · rw [if_neg ht]
            exact WD_sound (hF.put g.dst _) (hT.snoc (a := []) (b := []) (fun _ h => h)) (hB ht)
        · cases want with
          | true => exact join (q := true) hg (fun _ => hd) (fun h => by cases h) (gg := t) (by simp) hJ
          | false => exact join (q := true) hg (fun _ => hd) (fun h => by cases h) (gg := !t) (by simp) hJ
      · rename_i q t he
        rw [he] at hd
        simp only at hd
        cases want with
        | true => exact join hg hd.1 hd.2 (gg := q && t) (by simp) h
        | false => exact join hg hd.1 hd.2 (gg := q && !t) (by simp) h
      · exact h.elim

theorem WS_sound : ∀ {segs : List Seg} {nx : Nat} {ov : Ov} {f fr : Fr} {H : Hp} {K : Ov → Hp → Nat → Prop}, FrJ f ov fr → WS P nx segs ov fr H K → RunS P nx segs f H (fun f1 H1 nx1 => ∃ ov1, FrJ f1 ov1 fr ∧ K ov1 H1 nx1)
  | [], nx, ov, f, fr, H, K, hF, h => ⟨ov, hF, h⟩
  | ⟨[g], ps⟩ :: rest, nx, ov, f, fr, H, K, hF, h => by
    have h : Wops P nx [g] ov fr H fun ov' H' nx' => WS P nx' rest ov' fr H' K := h
    refine RunOps.mono (K' := fun a b c => RunS P c rest a b _) (Wops_sound hF h) ?_
    rintro f1 H1 nx1 ⟨ov1, h1, h2⟩
    exact WS_sound h1 h2
  | ⟨[], []⟩ :: rest, nx, ov, f, fr, H, K, hF, h => by
    have h : WE P nx [] ov fr H [] fun ov' H' _ => WS P (nx + 0) rest ov' fr H' K := h
    rw [WE_eq, List.reverse_nil] at h
    simp only [RunS]
    refine RunD.mono (WD_sound hF (tr' := []) (tr := []) trivial h) ?_
    rintro f1 H1 tr1 ⟨ov1, trj, h1, h2, h3⟩
    exact ⟨(fun p hp => by cases hp), WS_sound h1 h3⟩
  | ⟨[], p :: ps⟩ :: rest, nx, ov, f, fr, H, K, hF, h => by
    have h : WE P nx [] ov fr H [] fun ov' H' tr => Ask (farAll tr.reverse (p :: ps)) ∧ WS P (nx + 0) rest ov' fr H' K := h
    rw [WE_eq, List.reverse_nil] at h
    simp only [List.reverse_reverse] at h
    simp only [RunS]
    refine RunD.mono (WD_sound hF (tr' := []) (tr := []) trivial h) ?_
    rintro f1 H1 tr1 ⟨ov1, trj, h1, h2, h3⟩
    exact ⟨h2.far h3.1.ok, WS_sound h1 h3.2⟩
  | ⟨g1 :: g2 :: gs, []⟩ :: rest, nx, ov, f, fr, H, K, hF, h => by
    have h : WE P nx (g1 :: g2 :: gs) ov fr H [] fun ov' H' _ => WS P (nx + (g1 :: g2 :: gs).length) rest ov' fr H' K := h
    rw [WE_eq, List.reverse_nil] at h
    simp only [RunS]
    refine RunD.mono (WD_sound hF (tr' := []) (tr := []) trivial h) ?_
    rintro f1 H1 tr1 ⟨ov1, trj, h1, h2, h3⟩
    exact ⟨(fun p hp => by cases hp), WS_sound h1 h3⟩
  | ⟨g1 :: g2 :: gs, p :: ps⟩ :: rest, nx, ov, f, fr, H, K, hF, h => by
    have h : WE P nx (g1 :: g2 :: gs) ov fr H [] fun ov' H' tr => Ask (farAll tr.reverse (p :: ps)) ∧ WS P (nx + (g1 :: g2 :: gs).length) rest ov' fr H' K := h
    rw [WE_eq, List.reverse_nil] at h
    simp only [List.reverse_reverse] at h
    simp only [RunS]
    refine RunD.mono (WD_sound hF (tr' := []) (tr := []) trivial h) ?_
    rintro f1 H1 tr1 ⟨ov1, trj, h1, h2, h3⟩
    exact ⟨h2.far h3.1.ok, WS_sound h1 h3.2⟩

/-- A frame that says less. -/
theorem Holds.less {w0 : World} {M0 : Nat → Prop} {c0 : Cx} {lo n : Nat} {fr fr' : Fr} {H : Hp} {nx : Nat} {a : Act} {w : World} (h : Holds w0 M0 c0 lo n fr H nx a w) (hf : ∀ t, getF fr' t = .any ∨ getF fr' t = getF fr t) : Holds w0 M0 c0 lo n fr' H nx a w := by
  obtain ⟨h1, h2, ρ, U, hU, hS, hF, hT⟩ := h
  refine ⟨h1, h2, ρ, U, hU, hS, fun t => ?_, hT⟩
  rcases hf t with h | h
  · rw [h, VR]; trivial
  · rw [h]; exact hF t
theorem WL.less {n lo : Nat} {lc : LC} {fr : Fr} {H : Hp} {nx : Nat} {Q : QT} (h : WL P n lo lc fr H nx (fun e f H nx => ∃ f', (∀ t, getF f' t = .any ∨ getF f' t = getF f t) ∧ Q e f' H nx)) : WL P n lo lc fr H nx Q :=
  fun code hc w0 M0 c0 a w hh => Code.wp_mono (fun _ _ _ ⟨x, f, H, nx, he, ⟨f', h1, h2⟩, hhh⟩ => ⟨x, f', H, nx, he, h2, hhh.less h1⟩) (h code hc w0 M0 c0 a w hh)
theorem FrJ.less {f : Fr} {ov : Ov} {fr : Fr} (h : FrJ f ov fr) (t : Nat) : getF (plainO ov fr) t = .any ∨ getF (plainO ov fr) t = getF f t := by
  rcases getO_plain (ov := ov) (fr := fr) (t := t) with h1 | ⟨v, h1, h2⟩
  · exact .inl h1
  · have := h t
    rw [h1] at this
    exact .inr (h2.trans this.symm)

theorem W_sound {n lo : Nat} : ∀ {lc : LC} {fr : Fr} {H : Hp} {nx : Nat} {Q : QT}, W P n lo lc fr H nx Q → WL P n lo lc fr H nx Q
  | .skip, _, _, _, _, h => WL.skip h
  | .ret, _, _, _, _, h => WL.ret h
  | .exit _, _, _, _, _, h => WL.exit h
  | .region gs, fr, H, nx, Q, h => WL.less (WL.region (RunOps.mono (Wops_sound (FrJ.refl fr) h) fun _ _ _ ⟨_, h1, h2⟩ => ⟨_, h1.less, h2⟩))
  | .drawn segs, fr, H, nx, Q, h => WL.less (WL.drawn (RunS.mono (WS_sound (FrJ.refl fr) h) fun _ _ _ ⟨_, h1, h2⟩ => ⟨_, h1.less, h2⟩))
  | .seq a b, fr, H, nx, Q, h => WL.seq ((W_sound (lc := a) (Q := thenK (fun fr H nx => W P n lo b fr H nx Q) Q) h).mono fun e fr H nx hh => by
    cases e with
    | normal => exact W_sound (lc := b) hh
    | exit id => exact hh
    | ret => exact hh)
  | .cond c a b, fr, H, nx, Q, h => by
    have h : W_cond c a b (W P n lo a) (W P n lo b) fr H nx Q := h
    simp only [W_cond] at h
    split at h
    · rename_i t ht
      exact WL.cond ht (fun h1 => W_sound (lc := a) (h.ok.1 h1)) (fun h1 => W_sound (lc := b) (h.ok.2 h1))
    · rename_i ht
      exact WL.condAb ht (W_sound (lc := a) h.1) (W_sound (lc := b) h.2)
    · exact h.elim
  | .block id a, fr, H, nx, Q, h => WL.block (W_sound (lc := a) h)
  | .loop a, fr, H, nx, Q, h => h.ok

theorem Pure.of_W {f : FuncId} {fn : Func} {lc : LC} {args : List AV} {lrs : List LRes} {R : AV → Prop} (hf : P.funcs[f]? = some fn) (hname : (fn.name == "runtime.NumGoroutine") = false)
    (hl : (fn.body.bind (lowCode P fn.ntmps)) = some lc) (hr : lowRes P fn.results.toList = some lrs) {n : Nat} (hn : n = fn.ntmps) (ha : Nat.ble args.length n = true)
    (h : W P n 0 lc (initF 0 args) [] 0 (retQ lrs R)) : Pure P f args R := by
  subst hn
  exact Pure.of_body2 hf hname hl hr (Nat.le_of_ble_eq_true ha) (W_sound h)
theorem CallN.of_W {f : FuncId} {fn : Func} {lc : LC} {args : List AV} {lrs : List LRes} {H : Hp} {nx : Nat} {R : AV → Hp → Nat → Prop} (hf : P.funcs[f]? = some fn) (hname : (fn.name == "runtime.NumGoroutine") = false)
    (hl : (fn.body.bind (lowCode P fn.ntmps)) = some lc) (hr : lowRes P fn.results.toList = some lrs) {n : Nat} (hn : n = fn.ntmps) (ha : Nat.ble args.length n = true)
    (h : W P n nx lc (initF 0 args) H nx (retN lrs R)) : CallN P f args H nx R := by
  subst hn
  exact CallN.of_body2 hf hname hl hr (Nat.le_of_ble_eq_true ha) (W_sound h)

/-- A loop, in general: what holds at its head is told of the frame, the rows and the names. -/
theorem LoopW.inv {n lo : Nat} {x : LC} {fr : Fr} {H : Hp} {nx : Nat} {Q : QT} {σ : Type} (I : σ → Fr → Hp → Nat → Prop) (μ : σ → Nat) (s0 : σ) (h0 : ∃ fr', (∀ t, getF fr' t = .any ∨ getF fr' t = getF fr t) ∧ I s0 fr' H nx)
    (round : ∀ s fr H nx, I s fr H nx → WL P n lo x fr H nx (thenK (fun fr' H' nx' => ∃ s', μ s' < μ s ∧ ∃ fr2, (∀ t, getF fr2 t = .any ∨ getF fr2 t = getF fr' t) ∧ I s' fr2 H' nx') Q)) : LoopW P n lo x fr H nx Q := by
  refine ⟨fun code hc w0 M0 c0 a w hh => ?_⟩
  have : ∃ c1, code = .loop c1 ∧ lowCode P n c1 = some x := by
    cases code <;> simp only [lowCode] at hc
    case loop c1 =>
      simp only [Option.map_eq_some_iff, LC.loop.injEq] at hc
      obtain ⟨x', h1, rfl⟩ := hc
      exact ⟨c1, rfl, h1⟩
    all_goals (exfalso; repeat' (split at hc)) <;> simp at hc
  obtain ⟨c1, rfl, h1⟩ := this
  intro b k cs
  have key : ∀ m, ∀ s, μ s = m → ∀ fr H nx, I s fr H nx → ∀ a w, Holds w0 M0 c0 lo n fr H nx a w →
      ∃ e a' w', LQ w0 M0 c0 lo n Q e a' w' ∧ Arrives P (lone (b.at a (.code c1 :: .inLoop c1 :: k)) cs w) b k cs e a' w' := by
    intro m
    induction m using Nat.strongRecOn with
    | _ m ih =>
      intro s hs fr H nx hI a w hh
      obtain ⟨e, a1, w1, hq, harr⟩ := round s fr H nx hI c1 h1 w0 M0 c0 a w hh b (.inLoop c1 :: k) cs
      obtain ⟨x', fr', H', nx', rfl, hQ, hh'⟩ := hq
      cases x' with
      | normal =>
        obtain ⟨s', hlt, fr2, hless, hI'⟩ := hQ
        obtain ⟨e2, a2, w2, hq2, harr2⟩ := ih (μ s') (by omega) s' rfl fr2 H' nx' hI' a1 w1 (hh'.less hless)
        exact ⟨e2, a2, w2, hq2, .of_steps (Steps.trans harr (.one step_inLoop)) harr2⟩
      | exit id => exact ⟨_, a1, w1, ⟨.exit id, fr', H', nx', rfl, hQ, hh'⟩, .pass (x := .inLoop c1) rfl (fun _ _ => .inl (by simp [Ex.to])) harr⟩
      | ret => exact ⟨_, a1, w1, ⟨.ret, fr', H', nx', rfl, hQ, hh'⟩, .pass (x := .inLoop c1) rfl (fun _ _ => .inl (by simp [Ex.to])) harr⟩
  obtain ⟨fr', hless, hI⟩ := h0
  obtain ⟨e, a', w', hq, harr⟩ := key _ s0 rfl fr' H nx hI a w (hh.less hless)
  exact ⟨e, a', w', hq, .of_steps (.one step_loop) harr⟩

/-- The frame named at a loop's head: slot by slot. -/
def lessF (fr : Fr) : Fr → Prop
  | [] => True
  | (t, v) :: r => getF fr t = v ∧ lessF fr r
theorem lessF_spec {fr : Fr} : ∀ {fr' : Fr}, lessF fr fr' → ∀ t, getF fr' t = .any ∨ getF fr' t = getF fr t
  | [], _, t => .inl rfl
  | (d, v) :: r, h, t => by
    simp only [getF]
    by_cases ht : t = d
    · subst ht; rw [if_pos rfl]; exact .inr h.1.symm
    · rw [if_neg ht]; exact lessF_spec h.2 t
/-- A loop whose frame at the head is a function of what is known. -/
theorem LoopW.fr {n lo : Nat} {x : LC} {fr : Fr} {H : Hp} {nx : Nat} {Q : QT} {σ : Type} (F : σ → Fr) (I : σ → Hp → Nat → Prop) (μ : σ → Nat) (s0 : σ) (h0 : lessF fr (F s0)) (h1 : I s0 H nx)
    (round : ∀ s H nx, I s H nx → W P n lo x (F s) H nx (thenK (fun fr' H' nx' => ∃ s', μ s' < μ s ∧ lessF fr' (F s') ∧ I s' H' nx') Q)) : LoopW P n lo x fr H nx Q := by
  refine LoopW.inv (fun s fr H nx => fr = F s ∧ I s H nx) μ s0 ⟨F s0, lessF_spec h0, rfl, h1⟩ ?_
  rintro s fr H nx ⟨rfl, hI⟩
  refine (W_sound (round s H nx hI)).mono ?_
  intro e fr' H' nx' hh
  cases e with
  | normal =>
    obtain ⟨s', h2, h3, h4⟩ := hh
    exact ⟨s', h2, F s', lessF_spec h3, rfl, h4⟩
  | exit id => exact hh
  | ret => exact hh
end
end Go.Abs
