/- The rules by which a region is reckoned out: each rewrites at the head alone. -/
import Derived.Test.YtliabecchkolgaaAbsP
namespace Go.Abs
open Go.RowKit

theorem optK_congr {α : Type} {x y : Option α} (K : α → Prop) (h : x = y) : optK x K = optK y K := by rw [h]

def gsel (v : AV) (want : Bool) (A B : Prop) : Prop :=
  match v with
  | .sc (.bool t) => if t = want then A else B
  | .sc _ => B
  | _ => False
theorem gsel_congr {v v' : AV} (want : Bool) (A B : Prop) (h : v = v') : gsel v want A B = gsel v' want A B := by rw [h]
theorem gsel_t (t : Bool) (A B : Prop) : gsel (.sc (.bool t)) true A B = (if t = true then A else B) := rfl
theorem gsel_f (t : Bool) (A B : Prop) : gsel (.sc (.bool t)) false A B = (if t = true then B else A) := by cases t <;> rfl
theorem gsel_undef (w : Bool) (A B : Prop) : gsel (.sc undef) w A B = B := rfl
theorem ite_congr' {p q : Prop} [Decidable p] [Decidable q] (A B : Prop) (h : p = q) : (if p then A else B) = (if q then A else B) := by subst h; congr

theorem runOps_nil (P : Program) (nx : Nat) (fr : Fr) (H : Hp) (K : Fr → Hp → Nat → Prop) : RunOps P nx [] fr H K = K fr H nx := rfl
theorem runOps_plain (P : Program) (nx : Nat) (d : Option Nat) (op : LOp) (r : List GOp) (fr : Fr) (H : Hp) (K : Fr → Hp → Nat → Prop) :
    RunOps P nx (⟨d, none, op⟩ :: r) fr H K = StepN P nx fr H op fun x H' nx' => RunOps P nx' r (putF fr d x) H' K := rfl
theorem runOps_guard (P : Program) (nx : Nat) (d : Option Nat) (g : Nat) (w : Bool) (op : LOp) (r : List GOp) (fr : Fr) (H : Hp) (K : Fr → Hp → Nat → Prop) :
    RunOps P nx (⟨d, some (g, w), op⟩ :: r) fr H K = gsel (getF fr g) w (StepN P nx fr H op fun x H' nx' => RunOps P nx' r (putF fr d x) H' K) (RunOps P (nx + 1) r (putF fr d (.sc undef)) H K) := rfl
theorem runE_nil (P : Program) (nx : Nat) (fr : Fr) (H : Hp) (K : Fr → Hp → Prop) : RunE P nx [] fr H K = K fr H := rfl
theorem runE_plain (P : Program) (nx : Nat) (d : Option Nat) (op : LOp) (r : List GOp) (fr : Fr) (H : Hp) (K : Fr → Hp → Prop) :
    RunE P nx (⟨d, none, op⟩ :: r) fr H K = StepD P nx fr H op fun x u => RunE P (nx + 1) r (putF fr d x) (putH H u) K := rfl
theorem runE_guard (P : Program) (nx : Nat) (d : Option Nat) (g : Nat) (w : Bool) (op : LOp) (r : List GOp) (fr : Fr) (H : Hp) (K : Fr → Hp → Prop) :
    RunE P nx (⟨d, some (g, w), op⟩ :: r) fr H K = gsel (getF fr g) w (StepD P nx fr H op fun x u => RunE P (nx + 1) r (putF fr d x) (putH H u) K) (RunE P (nx + 1) r (putF fr d (.sc undef)) H K) := rfl
theorem runD_nil (P : Program) (nx : Nat) (fr : Fr) (H : Hp) (tr : Tr) (K : Fr → Hp → Tr → Prop) : RunD P nx [] fr H tr K = K fr H tr := rfl
theorem runD_plain (P : Program) (nx : Nat) (d : Option Nat) (op : LOp) (r : List GOp) (fr : Fr) (H : Hp) (tr : Tr) (K : Fr → Hp → Tr → Prop) :
    RunD P nx (⟨d, none, op⟩ :: r) fr H tr K = StepD P nx fr H op fun x u => RunD P (nx + 1) r (putF fr d x) (putH H u) (tr ++ [(idsOp fr op, u.map (·.1))]) K := rfl
theorem runD_guard (P : Program) (nx : Nat) (d : Option Nat) (g : Nat) (w : Bool) (op : LOp) (r : List GOp) (fr : Fr) (H : Hp) (tr : Tr) (K : Fr → Hp → Tr → Prop) :
    RunD P nx (⟨d, some (g, w), op⟩ :: r) fr H tr K = gsel (getF fr g) w (StepD P nx fr H op fun x u => RunD P (nx + 1) r (putF fr d x) (putH H u) (tr ++ [(idsOp fr op, u.map (·.1))]) K)
      (RunD P (nx + 1) r (putF fr d (.sc undef)) H (tr ++ [([], none)]) K) := rfl

theorem runD_runE {P : Program} : ∀ (gs : List GOp) (id : Nat) (fr : Fr) (H : Hp) (tr : Tr) (K : Fr → Hp → Prop), RunD P id gs fr H tr (fun fr H _ => K fr H) = RunE P id gs fr H K
  | [], _, _, _, _, _ => rfl
  | g :: gs, id, fr, H, tr, K => by simp only [RunD, RunE, runD_runE gs]
theorem farAll_nil (tr : Tr) : farAll tr [] = True := by simp [farAll]
theorem farAll_cons (tr : Tr) (p : Nat × Nat) (ps : List (Nat × Nat)) : farAll tr (p :: ps) = (farT (tr.getD p.1 ([], none)) (tr.getD p.2 ([], none)) ∧ farAll tr ps) := by simp [farAll]
theorem farT_nn (a b : List Nat) : farT (a, none) (b, none) = True := by simp [farT]
theorem farT_ns (a b : List Nat) (y : Nat) : farT (a, none) (b, some y) = ¬ y ∈ a := by simp [farT]
theorem farT_sn (a b : List Nat) (x : Nat) : farT (a, some x) (b, none) = ¬ x ∈ b := by simp [farT]
theorem farT_ss (a b : List Nat) (x y : Nat) : farT (a, some x) (b, some y) = (¬ x ∈ b ∧ ¬ y ∈ a ∧ ¬ x = y) := by
  simp only [farT, Option.some.injEq, forall_eq']
  apply propext
  constructor
  · rintro ⟨h1, h2, h3⟩; exact ⟨h1, h2, fun e => h3 x ⟨rfl, e.symm⟩⟩
  · rintro ⟨h1, h2, h3⟩; exact ⟨h1, h2, fun b ⟨e1, e2⟩ => h3 (e1.trans e2.symm)⟩
theorem runS_nil (P : Program) (nx : Nat) (fr : Fr) (H : Hp) (K : Fr → Hp → Nat → Prop) : RunS P nx [] fr H K = K fr H nx := rfl
theorem runS_plain (P : Program) (nx : Nat) (d : Option Nat) (op : LOp) (ps : List (Nat × Nat)) (r : List Seg) (fr : Fr) (H : Hp) (K : Fr → Hp → Nat → Prop) :
    RunS P nx (⟨[⟨d, none, op⟩], ps⟩ :: r) fr H K = StepN P nx fr H op fun x H' nx' => RunS P nx' r (putF fr d x) H' K := rfl
theorem runS_guard (P : Program) (nx : Nat) (d : Option Nat) (g : Nat) (w : Bool) (op : LOp) (ps : List (Nat × Nat)) (r : List Seg) (fr : Fr) (H : Hp) (K : Fr → Hp → Nat → Prop) :
    RunS P nx (⟨[⟨d, some (g, w), op⟩], ps⟩ :: r) fr H K = gsel (getF fr g) w (StepN P nx fr H op fun x H' nx' => RunS P nx' r (putF fr d x) H' K) (RunS P (nx + 1) r (putF fr d (.sc undef)) H K) := rfl
theorem runS_many (P : Program) (nx : Nat) (g1 g2 : GOp) (gs : List GOp) (p : Nat × Nat) (ps : List (Nat × Nat)) (r : List Seg) (fr : Fr) (H : Hp) (K : Fr → Hp → Nat → Prop) :
    RunS P nx (⟨g1 :: g2 :: gs, p :: ps⟩ :: r) fr H K = RunD P nx (g1 :: g2 :: gs) fr H [] fun fr' H' tr => farAll tr (p :: ps) ∧ RunS P (nx + (g1 :: g2 :: gs).length) r fr' H' K := rfl
theorem runS_manyE (P : Program) (nx : Nat) (g1 g2 : GOp) (gs : List GOp) (r : List Seg) (fr : Fr) (H : Hp) (K : Fr → Hp → Nat → Prop) :
    RunS P nx (⟨g1 :: g2 :: gs, []⟩ :: r) fr H K = RunE P nx (g1 :: g2 :: gs) fr H fun fr' H' => RunS P (nx + (g1 :: g2 :: gs).length) r fr' H' K := by
  rw [← runD_runE _ _ _ _ []]
  simp only [RunS, farAll_nil, true_and]

/-- A call that stands still till its contract is offered. -/
theorem callK_congr {P : Program} {f f' : AV} {as as' : List AV} (H : Hp) (id : Nat) (K : AV → Hp → Nat → Prop) (h1 : f = f') (h2 : as = as') : CallV P f as H id K = CallV P f' as' H id K := by rw [h1, h2]
theorem callH_congr {P : Program} {f : FuncId} {as as' : List AV} (H : Hp) (id : Nat) (K : AV → Hp → Nat → Prop) (h2 : as = as') : CallN P f as H id K = CallN P f as' H id K := by rw [h2]
theorem callK_fn (P : Program) (g : FuncId) (p as q : List AV) (H : Hp) (id : Nat) (K : AV → Hp → Nat → Prop) : CallV P (.fn (.func g) p q) as H id K = CallN P g (p ++ as ++ q) H id K := rfl
def CallD (P : Program) (id : Nat) (f : AV) (as : List AV) (K : AV → Option (Nat × Blk) → Prop) : Prop := ∃ r u, PureK P id f as r u ∧ K r u
def CallP (P : Program) (id : Nat) (g : FuncId) (as : List AV) (K : AV → Option (Nat × Blk) → Prop) : Prop := ∃ r u, PureK P id (.fn (.func g) [] []) as r u ∧ K r u
theorem callD_congr {P : Program} {id : Nat} {f f' : AV} {as as' : List AV} (K : AV → Option (Nat × Blk) → Prop) (h1 : f = f') (h2 : as = as') : CallD P id f as K = CallD P id f' as' K := by rw [h1, h2]
theorem callP_congr {P : Program} {id : Nat} {g : FuncId} {as as' : List AV} (K : AV → Option (Nat × Blk) → Prop) (h2 : as = as') : CallP P id g as K = CallP P id g as' K := by rw [h2]
theorem callD_fn (P : Program) (id : Nat) (g : FuncId) (p as q : List AV) (K : AV → Option (Nat × Blk) → Prop) : CallD P id (.fn (.func g) p q) as K = CallP P id g (p ++ as ++ q) K := by
  simp only [CallD, CallP, PureK, List.nil_append, List.append_nil]
theorem stepD_call (P : Program) (id : Nat) (fr : Fr) (H : Hp) (f : Opd) (as : List Opd) (K : AV → Option (Nat × Blk) → Prop) : StepD P id fr H (.call f as) K = CallD P id (ev fr f) (evL fr as) K := rfl
theorem stepK_call (P : Program) (id : Nat) (fr : Fr) (H : Hp) (f : Opd) (as : List Opd) (K : AV → Hp → Nat → Prop) : StepN P id fr H (.call f as) K = CallV P (ev fr f) (evL fr as) H id K := rfl

theorem CallP.of {P : Program} {id : Nat} {g : FuncId} {as : List AV} {K : AV → Option (Nat × Blk) → Prop} {r : AV} (h : Pure P g as (fun r' => r' = r)) (hf : fitL 0 as) (hK : K r none) : CallP P id g as K :=
  ⟨r, none, Pure.pureK (by simpa using hf) (by simpa using h), hK⟩
theorem CallN.of {P : Program} {g : FuncId} {as : List AV} {H : Hp} {id : Nat} {K : AV → Hp → Nat → Prop} {R : AV → Prop} (h : Pure P g as R) (hf : fitL 0 as) (hK : ∀ r, R r → K r H id) : CallN P g as H id K := h.callN hf hK

section
variable (P : Program) (id : Nat) (fr : Fr) (H : Hp)
/-! One rule an operation: the operand's values first, then what comes of them. -/
def k1 (x : AV) (K : AV → Prop) : Prop := K x
theorem k1_congr {x y : AV} (K : AV → Prop) (h : x = y) : k1 x K = k1 y K := by rw [h]
end

theorem sK_mv (P : Program) (id : Nat) (fr : Fr) (H : Hp) (x : Opd) (K : AV → Hp → Nat → Prop) : StepN P id fr H (.mv x) K = optK (stepL id fr H (.mv x)) fun p => K p.1 (putH H p.2) (id + 1) := rfl
theorem sD_mv (P : Program) (id : Nat) (fr : Fr) (H : Hp) (x : Opd) (K : AV → Option (Nat × Blk) → Prop) : StepD P id fr H (.mv x) K = optK (stepL id fr H (.mv x)) fun p => K p.1 p.2 := rfl
theorem sK_pick (P : Program) (id : Nat) (fr : Fr) (H : Hp) (c a b : Opd) (K : AV → Hp → Nat → Prop) : StepN P id fr H (.pick c a b) K = optK (stepL id fr H (.pick c a b)) fun p => K p.1 (putH H p.2) (id + 1) := rfl
theorem sD_pick (P : Program) (id : Nat) (fr : Fr) (H : Hp) (c a b : Opd) (K : AV → Option (Nat × Blk) → Prop) : StepD P id fr H (.pick c a b) K = optK (stepL id fr H (.pick c a b)) fun p => K p.1 p.2 := rfl
theorem sK_alloc (P : Program) (id : Nat) (fr : Fr) (H : Hp) (e : TypeId) (sz : Nat) (ag : Bool) (z : List Value) (K : AV → Hp → Nat → Prop) : StepN P id fr H (.alloc e sz ag z) K = optK (stepL id fr H (.alloc e sz ag z)) fun p => K p.1 (putH H p.2) (id + 1) := rfl
theorem sD_alloc (P : Program) (id : Nat) (fr : Fr) (H : Hp) (e : TypeId) (sz : Nat) (ag : Bool) (z : List Value) (K : AV → Option (Nat × Blk) → Prop) : StepD P id fr H (.alloc e sz ag z) K = optK (stepL id fr H (.alloc e sz ag z)) fun p => K p.1 p.2 := rfl
theorem sK_box (P : Program) (id : Nat) (fr : Fr) (H : Hp) (e : TypeId) (sz : Nat) (ag : Bool) (x : Opd) (K : AV → Hp → Nat → Prop) : StepN P id fr H (.box e sz ag x) K = optK (stepL id fr H (.box e sz ag x)) fun p => K p.1 (putH H p.2) (id + 1) := rfl
theorem sD_box (P : Program) (id : Nat) (fr : Fr) (H : Hp) (e : TypeId) (sz : Nat) (ag : Bool) (x : Opd) (K : AV → Option (Nat × Blk) → Prop) : StepD P id fr H (.box e sz ag x) K = optK (stepL id fr H (.box e sz ag x)) fun p => K p.1 p.2 := rfl
theorem sK_bld (P : Program) (id : Nat) (fr : Fr) (H : Hp) (z : List Value) (parts : List (Nat × Nat × Opd)) (K : AV → Hp → Nat → Prop) : StepN P id fr H (.bld z parts) K = optK (stepL id fr H (.bld z parts)) fun p => K p.1 (putH H p.2) (id + 1) := rfl
theorem sD_bld (P : Program) (id : Nat) (fr : Fr) (H : Hp) (z : List Value) (parts : List (Nat × Nat × Opd)) (K : AV → Option (Nat × Blk) → Prop) : StepD P id fr H (.bld z parts) K = optK (stepL id fr H (.bld z parts)) fun p => K p.1 p.2 := rfl
theorem sK_bsl (P : Program) (id : Nat) (fr : Fr) (H : Hp) (e : TypeId) (sz : Nat) (ag : Bool) (z : List Value) (n : Nat) (parts : List (Nat × Opd)) (K : AV → Hp → Nat → Prop) : StepN P id fr H (.bsl e sz ag z n parts) K = optK (stepL id fr H (.bsl e sz ag z n parts)) fun p => K p.1 (putH H p.2) (id + 1) := rfl
theorem sD_bsl (P : Program) (id : Nat) (fr : Fr) (H : Hp) (e : TypeId) (sz : Nat) (ag : Bool) (z : List Value) (n : Nat) (parts : List (Nat × Opd)) (K : AV → Option (Nat × Blk) → Prop) : StepD P id fr H (.bsl e sz ag z n parts) K = optK (stepL id fr H (.bsl e sz ag z n parts)) fun p => K p.1 p.2 := rfl
theorem sK_ld (P : Program) (id : Nat) (fr : Fr) (H : Hp) (ag : Bool) (k : Nat) (x : Opd) (K : AV → Hp → Nat → Prop) : StepN P id fr H (.ld ag k x) K = optK (stepL id fr H (.ld ag k x)) fun p => K p.1 (putH H p.2) (id + 1) := rfl
theorem sD_ld (P : Program) (id : Nat) (fr : Fr) (H : Hp) (ag : Bool) (k : Nat) (x : Opd) (K : AV → Option (Nat × Blk) → Prop) : StepD P id fr H (.ld ag k x) K = optK (stepL id fr H (.ld ag k x)) fun p => K p.1 p.2 := rfl
theorem sK_st (P : Program) (id : Nat) (fr : Fr) (H : Hp) (ag : Bool) (k : Nat) (x y : Opd) (K : AV → Hp → Nat → Prop) : StepN P id fr H (.st ag k x y) K = optK (stepL id fr H (.st ag k x y)) fun p => K p.1 (putH H p.2) (id + 1) := rfl
theorem sD_st (P : Program) (id : Nat) (fr : Fr) (H : Hp) (ag : Bool) (k : Nat) (x y : Opd) (K : AV → Option (Nat × Blk) → Prop) : StepD P id fr H (.st ag k x y) K = optK (stepL id fr H (.st ag k x y)) fun p => K p.1 p.2 := rfl
theorem sK_nck (P : Program) (id : Nat) (fr : Fr) (H : Hp) (x : Opd) (K : AV → Hp → Nat → Prop) : StepN P id fr H (.nck x) K = optK (stepL id fr H (.nck x)) fun p => K p.1 (putH H p.2) (id + 1) := rfl
theorem sD_nck (P : Program) (id : Nat) (fr : Fr) (H : Hp) (x : Opd) (K : AV → Option (Nat × Blk) → Prop) : StepD P id fr H (.nck x) K = optK (stepL id fr H (.nck x)) fun p => K p.1 p.2 := rfl
theorem sK_bin (P : Program) (id : Nat) (fr : Fr) (H : Hp) (op : BinOp) (x y : Opd) (K : AV → Hp → Nat → Prop) : StepN P id fr H (.bin op x y) K = optK (stepL id fr H (.bin op x y)) fun p => K p.1 (putH H p.2) (id + 1) := rfl
theorem sD_bin (P : Program) (id : Nat) (fr : Fr) (H : Hp) (op : BinOp) (x y : Opd) (K : AV → Option (Nat × Blk) → Prop) : StepD P id fr H (.bin op x y) K = optK (stepL id fr H (.bin op x y)) fun p => K p.1 p.2 := rfl
theorem sK_eqb (P : Program) (id : Nat) (fr : Fr) (H : Hp) (neg : Bool) (x y : Opd) (K : AV → Hp → Nat → Prop) : StepN P id fr H (.eqb neg x y) K = optK (stepL id fr H (.eqb neg x y)) fun p => K p.1 (putH H p.2) (id + 1) := rfl
theorem sD_eqb (P : Program) (id : Nat) (fr : Fr) (H : Hp) (neg : Bool) (x y : Opd) (K : AV → Option (Nat × Blk) → Prop) : StepD P id fr H (.eqb neg x y) K = optK (stepL id fr H (.eqb neg x y)) fun p => K p.1 p.2 := rfl
theorem sK_eqstr (P : Program) (id : Nat) (fr : Fr) (H : Hp) (neg : Bool) (x y : Opd) (K : AV → Hp → Nat → Prop) : StepN P id fr H (.eqstr neg x y) K = optK (stepL id fr H (.eqstr neg x y)) fun p => K p.1 (putH H p.2) (id + 1) := rfl
theorem sD_eqstr (P : Program) (id : Nat) (fr : Fr) (H : Hp) (neg : Bool) (x y : Opd) (K : AV → Option (Nat × Blk) → Prop) : StepD P id fr H (.eqstr neg x y) K = optK (stepL id fr H (.eqstr neg x y)) fun p => K p.1 p.2 := rfl
theorem sK_un (P : Program) (id : Nat) (fr : Fr) (H : Hp) (op : UnOp) (x : Opd) (K : AV → Hp → Nat → Prop) : StepN P id fr H (.un op x) K = optK (stepL id fr H (.un op x)) fun p => K p.1 (putH H p.2) (id + 1) := rfl
theorem sD_un (P : Program) (id : Nat) (fr : Fr) (H : Hp) (op : UnOp) (x : Opd) (K : AV → Option (Nat × Blk) → Prop) : StepD P id fr H (.un op x) K = optK (stepL id fr H (.un op x)) fun p => K p.1 p.2 := rfl
theorem sK_cvt (P : Program) (id : Nat) (fr : Fr) (H : Hp) (k : IntKind) (x : Opd) (K : AV → Hp → Nat → Prop) : StepN P id fr H (.cvt k x) K = optK (stepL id fr H (.cvt k x)) fun p => K p.1 (putH H p.2) (id + 1) := rfl
theorem sD_cvt (P : Program) (id : Nat) (fr : Fr) (H : Hp) (k : IntKind) (x : Opd) (K : AV → Option (Nat × Blk) → Prop) : StepD P id fr H (.cvt k x) K = optK (stepL id fr H (.cvt k x)) fun p => K p.1 p.2 := rfl
theorem sK_fa (P : Program) (id : Nat) (fr : Fr) (H : Hp) (off : Nat) (x : Opd) (K : AV → Hp → Nat → Prop) : StepN P id fr H (.fa off x) K = optK (stepL id fr H (.fa off x)) fun p => K p.1 (putH H p.2) (id + 1) := rfl
theorem sD_fa (P : Program) (id : Nat) (fr : Fr) (H : Hp) (off : Nat) (x : Opd) (K : AV → Option (Nat × Blk) → Prop) : StepD P id fr H (.fa off x) K = optK (stepL id fr H (.fa off x)) fun p => K p.1 p.2 := rfl
theorem sK_ia (P : Program) (id : Nat) (fr : Fr) (H : Hp) (k : Nat) (n : Option Nat) (x i : Opd) (K : AV → Hp → Nat → Prop) : StepN P id fr H (.ia k n x i) K = optK (stepL id fr H (.ia k n x i)) fun p => K p.1 (putH H p.2) (id + 1) := rfl
theorem sD_ia (P : Program) (id : Nat) (fr : Fr) (H : Hp) (k : Nat) (n : Option Nat) (x i : Opd) (K : AV → Option (Nat × Blk) → Prop) : StepD P id fr H (.ia k n x i) K = optK (stepL id fr H (.ia k n x i)) fun p => K p.1 p.2 := rfl
theorem sK_fld (P : Program) (id : Nat) (fr : Fr) (H : Hp) (off k : Nat) (ag : Bool) (x : Opd) (K : AV → Hp → Nat → Prop) : StepN P id fr H (.fld off k ag x) K = optK (stepL id fr H (.fld off k ag x)) fun p => K p.1 (putH H p.2) (id + 1) := rfl
theorem sD_fld (P : Program) (id : Nat) (fr : Fr) (H : Hp) (off k : Nat) (ag : Bool) (x : Opd) (K : AV → Option (Nat × Blk) → Prop) : StepD P id fr H (.fld off k ag x) K = optK (stepL id fr H (.fld off k ag x)) fun p => K p.1 p.2 := rfl
theorem sK_ix (P : Program) (id : Nat) (fr : Fr) (H : Hp) (k : Nat) (ag : Bool) (n : Nat) (x i : Opd) (K : AV → Hp → Nat → Prop) : StepN P id fr H (.ix k ag n x i) K = optK (stepL id fr H (.ix k ag n x i)) fun p => K p.1 (putH H p.2) (id + 1) := rfl
theorem sD_ix (P : Program) (id : Nat) (fr : Fr) (H : Hp) (k : Nat) (ag : Bool) (n : Nat) (x i : Opd) (K : AV → Option (Nat × Blk) → Prop) : StepD P id fr H (.ix k ag n x i) K = optK (stepL id fr H (.ix k ag n x i)) fun p => K p.1 p.2 := rfl
theorem sK_mks (P : Program) (id : Nat) (fr : Fr) (H : Hp) (e : TypeId) (sz bytes : Nat) (ag : Bool) (z : List Value) (l c : Opd) (K : AV → Hp → Nat → Prop) : StepN P id fr H (.mks e sz bytes ag z l c) K = optK (stepL id fr H (.mks e sz bytes ag z l c)) fun p => K p.1 (putH H p.2) (id + 1) := rfl
theorem sD_mks (P : Program) (id : Nat) (fr : Fr) (H : Hp) (e : TypeId) (sz bytes : Nat) (ag : Bool) (z : List Value) (l c : Opd) (K : AV → Option (Nat × Blk) → Prop) : StepD P id fr H (.mks e sz bytes ag z l c) K = optK (stepL id fr H (.mks e sz bytes ag z l c)) fun p => K p.1 p.2 := rfl
theorem sK_ext (P : Program) (id : Nat) (fr : Fr) (H : Hp) (i : Nat) (x : Opd) (K : AV → Hp → Nat → Prop) : StepN P id fr H (.ext i x) K = optK (stepL id fr H (.ext i x)) fun p => K p.1 (putH H p.2) (id + 1) := rfl
theorem sD_ext (P : Program) (id : Nat) (fr : Fr) (H : Hp) (i : Nat) (x : Opd) (K : AV → Option (Nat × Blk) → Prop) : StepD P id fr H (.ext i x) K = optK (stepL id fr H (.ext i x)) fun p => K p.1 p.2 := rfl
theorem sK_mkf (P : Program) (id : Nat) (fr : Fr) (H : Hp) (f : Fn) (first caps : List Opd) (K : AV → Hp → Nat → Prop) : StepN P id fr H (.mkf f first caps) K = optK (stepL id fr H (.mkf f first caps)) fun p => K p.1 (putH H p.2) (id + 1) := rfl
theorem sD_mkf (P : Program) (id : Nat) (fr : Fr) (H : Hp) (f : Fn) (first caps : List Opd) (K : AV → Option (Nat × Blk) → Prop) : StepD P id fr H (.mkf f first caps) K = optK (stepL id fr H (.mkf f first caps)) fun p => K p.1 p.2 := rfl
theorem sK_mki (P : Program) (id : Nat) (fr : Fr) (H : Hp) (t : TypeId) (x : Opd) (K : AV → Hp → Nat → Prop) : StepN P id fr H (.mki t x) K = optK (stepL id fr H (.mki t x)) fun p => K p.1 (putH H p.2) (id + 1) := rfl
theorem sD_mki (P : Program) (id : Nat) (fr : Fr) (H : Hp) (t : TypeId) (x : Opd) (K : AV → Option (Nat × Blk) → Prop) : StepD P id fr H (.mki t x) K = optK (stepL id fr H (.mki t x)) fun p => K p.1 p.2 := rfl
theorem sK_len (P : Program) (id : Nat) (fr : Fr) (H : Hp) (x : Opd) (K : AV → Hp → Nat → Prop) : StepN P id fr H (.len x) K = optK (stepL id fr H (.len x)) fun p => K p.1 (putH H p.2) (id + 1) := rfl
theorem sD_len (P : Program) (id : Nat) (fr : Fr) (H : Hp) (x : Opd) (K : AV → Option (Nat × Blk) → Prop) : StepD P id fr H (.len x) K = optK (stepL id fr H (.len x)) fun p => K p.1 p.2 := rfl
theorem sK_lens (P : Program) (id : Nat) (fr : Fr) (H : Hp) (x : Opd) (K : AV → Hp → Nat → Prop) : StepN P id fr H (.lens x) K = optK (stepL id fr H (.lens x)) fun p => K p.1 (putH H p.2) (id + 1) := rfl
theorem sD_lens (P : Program) (id : Nat) (fr : Fr) (H : Hp) (x : Opd) (K : AV → Option (Nat × Blk) → Prop) : StepD P id fr H (.lens x) K = optK (stepL id fr H (.lens x)) fun p => K p.1 p.2 := rfl
theorem sK_ixs (P : Program) (id : Nat) (fr : Fr) (H : Hp) (x i : Opd) (K : AV → Hp → Nat → Prop) : StepN P id fr H (.ixs x i) K = optK (stepL id fr H (.ixs x i)) fun p => K p.1 (putH H p.2) (id + 1) := rfl
theorem sD_ixs (P : Program) (id : Nat) (fr : Fr) (H : Hp) (x i : Opd) (K : AV → Option (Nat × Blk) → Prop) : StepD P id fr H (.ixs x i) K = optK (stepL id fr H (.ixs x i)) fun p => K p.1 p.2 := rfl
theorem sK_app (P : Program) (id : Nat) (fr : Fr) (H : Hp) (e : TypeId) (sz bytes : Nat) (ag : Bool) (z : List Value) (s x : Opd) (K : AV → Hp → Nat → Prop) : StepN P id fr H (.app e sz bytes ag z s x) K = optK (stepL id fr H (.app e sz bytes ag z s x)) fun p => K p.1 (putH H p.2) (id + 1) := rfl
theorem sD_app (P : Program) (id : Nat) (fr : Fr) (H : Hp) (e : TypeId) (sz bytes : Nat) (ag : Bool) (z : List Value) (s x : Opd) (K : AV → Option (Nat × Blk) → Prop) : StepD P id fr H (.app e sz bytes ag z s x) K = optK (stepL id fr H (.app e sz bytes ag z s x)) fun p => K p.1 p.2 := rfl
theorem sK_nilp (P : Program) (id : Nat) (fr : Fr) (H : Hp) (neg : Bool) (x : Opd) (K : AV → Hp → Nat → Prop) : StepN P id fr H (.nilp neg x) K = optK (stepL id fr H (.nilp neg x)) fun p => K p.1 (putH H p.2) (id + 1) := rfl
theorem sD_nilp (P : Program) (id : Nat) (fr : Fr) (H : Hp) (neg : Bool) (x : Opd) (K : AV → Option (Nat × Blk) → Prop) : StepD P id fr H (.nilp neg x) K = optK (stepL id fr H (.nilp neg x)) fun p => K p.1 p.2 := rfl
theorem sK_nils (P : Program) (id : Nat) (fr : Fr) (H : Hp) (neg : Bool) (x : Opd) (K : AV → Hp → Nat → Prop) : StepN P id fr H (.nils neg x) K = optK (stepL id fr H (.nils neg x)) fun p => K p.1 (putH H p.2) (id + 1) := rfl
theorem sD_nils (P : Program) (id : Nat) (fr : Fr) (H : Hp) (neg : Bool) (x : Opd) (K : AV → Option (Nat × Blk) → Prop) : StepD P id fr H (.nils neg x) K = optK (stepL id fr H (.nils neg x)) fun p => K p.1 p.2 := rfl
theorem sK_eqs (P : Program) (id : Nat) (fr : Fr) (H : Hp) (neg : Bool) (ks : List LK) (x y : Opd) (K : AV → Hp → Nat → Prop) : StepN P id fr H (.eqs neg ks x y) K = optK (stepL id fr H (.eqs neg ks x y)) fun p => K p.1 (putH H p.2) (id + 1) := rfl
theorem sD_eqs (P : Program) (id : Nat) (fr : Fr) (H : Hp) (neg : Bool) (ks : List LK) (x y : Opd) (K : AV → Option (Nat × Blk) → Prop) : StepD P id fr H (.eqs neg ks x y) K = optK (stepL id fr H (.eqs neg ks x y)) fun p => K p.1 p.2 := rfl
theorem sK_slc (P : Program) (id : Nat) (fr : Fr) (H : Hp) (sz : Nat) (x : Opd) (lo hi : Option Opd) (K : AV → Hp → Nat → Prop) : StepN P id fr H (.slc sz x lo hi) K = optK (stepL id fr H (.slc sz x lo hi)) fun p => K p.1 (putH H p.2) (id + 1) := rfl
theorem sD_slc (P : Program) (id : Nat) (fr : Fr) (H : Hp) (sz : Nat) (x : Opd) (lo hi : Option Opd) (K : AV → Option (Nat × Blk) → Prop) : StepD P id fr H (.slc sz x lo hi) K = optK (stepL id fr H (.slc sz x lo hi)) fun p => K p.1 p.2 := rfl
theorem sK_cpy (P : Program) (id : Nat) (fr : Fr) (H : Hp) (sz : Nat) (x y : Opd) (K : AV → Hp → Nat → Prop) : StepN P id fr H (.cpy sz x y) K = optK (stepL id fr H (.cpy sz x y)) fun p => K p.1 (putH H p.2) (id + 1) := rfl
theorem sD_cpy (P : Program) (id : Nat) (fr : Fr) (H : Hp) (sz : Nat) (x y : Opd) (K : AV → Option (Nat × Blk) → Prop) : StepD P id fr H (.cpy sz x y) K = optK (stepL id fr H (.cpy sz x y)) fun p => K p.1 p.2 := rfl
theorem getF_cons (d : Nat) (v : AV) (r : Fr) (t : Nat) : getF ((d, v) :: r) t = if t = d then v else getF r t := rfl
theorem getF_nil (t : Nat) : getF [] t = .any := rfl
theorem getH_cons (d : Nat) (v : Option Blk) (r : Hp) (b : Nat) : getH ((d, v) :: r) b = if b = d then v else getH r b := rfl
theorem getH_nil (b : Nat) : getH [] b = none := rfl
theorem putF_some (fr : Fr) (d : Nat) (v : AV) : putF fr (some d) v = (d, v) :: fr := rfl
theorem putF_none (fr : Fr) (v : AV) : putF fr none v = fr := rfl
theorem putH_some (H : Hp) (b : Nat) (k : Blk) : putH H (some (b, k)) = (b, some k) :: H := rfl
theorem putH_none (H : Hp) : putH H none = H := rfl
end Go.Abs
namespace Go.Abs
/-- What is to come, behind a name. -/
def contK (P : Program) (n lo : Nat) (y : LC) (Q : QT) (fr : Fr) (H : Hp) (nx : Nat) : Prop := WL P n lo y fr H nx Q
def seqQ (P : Program) (n lo : Nat) (y : LC) (Q : QT) : QT := thenK (contK P n lo y Q) Q
theorem seqQ_normal (P : Program) (n lo : Nat) (y : LC) (Q : QT) : seqQ P n lo y Q .normal = contK P n lo y Q := rfl
theorem seqQ_ret (P : Program) (n lo : Nat) (y : LC) (Q : QT) : seqQ P n lo y Q .ret = Q .ret := rfl
theorem seqQ_exit (P : Program) (n lo : Nat) (y : LC) (Q : QT) (id : Nat) : seqQ P n lo y Q (.exit id) = Q (.exit id) := rfl
theorem WL.seqq {P : Program} {n lo : Nat} {x y : LC} {fr : Fr} {H : Hp} {nx : Nat} {Q : QT} (h : WL P n lo x fr H nx (seqQ P n lo y Q)) : WL P n lo (.seq x y) fr H nx Q := WL.seq h
theorem WL.cont {P : Program} {n lo : Nat} {y : LC} {fr : Fr} {H : Hp} {nx : Nat} {Q : QT} (h : WL P n lo y fr H nx Q) : contK P n lo y Q fr H nx := h
theorem pickA_true (a b : AV) : pickA true a b = a := by unfold pickA; split <;> rfl
theorem pickA_false (a b : AV) : pickA false a b = b := by unfold pickA; split <;> rfl
theorem pickA_bool (t p q : Bool) : pickA t (.sc (.bool p)) (.sc (.bool q)) = .sc (.bool (if t then p else q)) := rfl
theorem pickA_tt {t : Bool} (a b : AV) (h : t = true) : pickA t a b = a := by rw [h, pickA_true]
theorem frz_sc (H : Hp) (k : Nat) (u : Value) : frz H k (.sc u) = .sc u := by cases k <;> rfl

/-- A condition that is not known: both ways. -/
theorem WL.condAb {P : Program} {n lo : Nat} {fr : Fr} {H : Hp} {nx : Nat} {Q : QT} {c : Opd} {x y : LC} (hc : ev fr c = .ab) (h1 : WL P n lo x fr H nx Q) (h2 : WL P n lo y fr H nx Q) : WL P n lo (.cond c x y) fr H nx Q := by
  intro code hcode w0 M0 c0 a w hh
  have : ∃ c' c1 c2, code = .cond c' c1 c2 ∧ lowOpd c' = some c ∧ lowCode P n c1 = some x ∧ lowCode P n c2 = some y := by
    cases code <;> simp only [lowCode] at hcode
    case cond c' c1 c2 =>
      split at hcode
      · rename_i c'' x' y' g1 g2 g3
        simp only [Option.some.injEq, LC.cond.injEq] at hcode
        obtain ⟨rfl, rfl, rfl⟩ := hcode
        exact ⟨c', c1, c2, rfl, g1, g2, g3⟩
      · simp at hcode
    all_goals (exfalso; repeat' (split at hcode)) <;> simp at hcode
  obtain ⟨c', c1, c2, rfl, g1, g2, g3⟩ := this
  have hh' := hh
  obtain ⟨_, _, ρ, U, _, _, hF, _⟩ := hh'
  have hv := evR hF g1
  rw [hc, VR] at hv
  obtain ⟨t, hv⟩ := hv
  exact wp_cond_split hv (fun _ => h1 c1 g2 w0 M0 c0 a w hh) (fun _ => h2 c2 g3 w0 M0 c0 a w hh)
end Go.Abs
