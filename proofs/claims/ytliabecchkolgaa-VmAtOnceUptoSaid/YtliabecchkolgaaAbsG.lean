/- The lowering of an operation, and that a step of ours is a step of the model's. -/
import Derived.Test.YtliabecchkolgaaAbsF
namespace Go.Abs
open Go.RowKit

def lowPs (place : Nat → Option (Nat × Nat)) : List (Nat × Operand) → Option (List (Nat × Nat × Opd))
  | [] => some []
  | (i, x) :: r => match place i, lowOpd x, lowPs place r with
    | some (off, sz), some y, some q => some ((off, sz, y) :: q)
    | _, _, _ => none
def lowQs : List (Nat × Operand) → Option (List (Nat × Opd))
  | [] => some []
  | (i, x) :: r => match lowOpd x, lowQs r with
    | some y, some q => some ((i, y) :: q)
    | _, _ => none
def lowL : List Operand → Option (List Opd)
  | [] => some []
  | x :: r => match lowOpd x, lowL r with
    | some y, some q => some (y :: q)
    | _, _ => none

def zcs (P : Program) (t : TypeId) : Option (List Value) := (P.info? t).bind fun i => i.zero.map fun z => z.cells.toList

/-- Where the parts of a literal lie. -/
def placesT (P : Program) (t : TypeId) : Option (List (Nat × Nat) ⊕ Nat) :=
  match P.underlying t with
  | some (.array _ e) => (P.info? e).map fun i => .inr i.size
  | some (.struct fs) => (fs.toList.mapM fun f => (P.info? f.type).map fun i => (f.offset, i.size)).map .inl
  | _ => none
def placeOf : List (Nat × Nat) ⊕ Nat → Nat → Option (Nat × Nat)
  | .inl ps, i => ps.toArray[i]?
  | .inr k, i => some (i * k, k)

def lowO : Option Operand → Option (Option Opd)
  | none => some none
  | some x => (lowOpd x).map some

def eqFs (P : Program) (f : TypeId → Option (List LK)) : List Field → Nat → Option (List LK)
  | [], _ => some []
  | fl :: r, off => match f fl.type, szT P fl.type, eqFs P f r (fl.offset + (szT P fl.type).getD 0) with
    | some l, some s, some q => if l.length = s ∧ fl.offset = off ∧ fl.name ≠ "_" then some (l ++ q) else none
    | _, _, _ => none
def eqTy (P : Program) : Nat → TypeId → Option (List LK)
  | 0, _ => none
  | k + 1, t => match P.underlying t with
    | some (.int _) => some [.i]
    | some .bool => some [.b]
    | some .string => some [.s]
    | some (.struct fs) => if P.stoodInHeld t then none else eqFs P (eqTy P k) fs.toList 0
    | some (.array n e) => match eqTy P k e, szT P e with
      | some l, some s => if l.length = s then some (List.replicate n l).flatten else none
      | _, _ => none
    | _ => none
def lowEq (P : Program) (op : BinOp) (t : TypeId) (x y : Opd) : Option LOp :=
  match eqTy P 20 t with
  | some ks => if P.eqGuardType P.depth t = true ∨ aggT P t ≠ some true then none else (match op with | .eql => some (.eqs false ks x y) | .neq => some (.eqs true ks x y) | _ => none)
  | none => none

def lowOp (P : Program) (o : Oper) : Option LOp :=
  match o.op with
  | .move x => (lowOpd x).map .mv
  | .assign x => (lowOpd x).map .mv
  | .pick k x y => match lowOpd k, lowOpd x, lowOpd y with
    | some k, some x, some y => some (.pick k x y)
    | _, _, _ => none
  | .alloc e => (zT P e).map fun p => .alloc e p.1 p.2.1 p.2.2
  | .box e x => match zT P e, lowOpd x with
    | some p, some x => some (.box e p.1 p.2.1 x)
    | _, _ => none
  | .build t parts => match placesT P t, zcs P t with
    | some pl, some z => (lowPs (placeOf pl) parts.toList).map (.bld z ·)
    | _, _ => none
  | .buildSlice t n parts => match P.underlying t with
    | some (.slice e) => match zT P e, lowQs parts.toList with
      | some p, some q => if n * p.1 ≤ 16777216 then some (.bsl e p.1 p.2.1 p.2.2 n q) else none
      | _, _ => none
    | _ => none
  | .load t x => match aggT P t, szT P t, lowOpd x with
    | some ag, some k, some x => if ag = false ∧ k ≠ 1 then none else some (.ld ag k x)
    | _, _, _ => none
  | .store t x y => match aggT P t, szT P t, lowOpd x, lowOpd y with
    | some ag, some k, some x, some y => if ag = false ∧ k ≠ 1 then none else some (.st ag k x y)
    | _, _, _, _ => none
  | .nilCheck x => (lowOpd x).map .nck
  | .binOp op t x y _ => match P.underlying t, lowOpd x, lowOpd y with
    | some (.int _), some x, some y => some (.bin op x y)
    | some .bool, some x, some y => (match op with | .eql => some (.eqb false x y) | .neq => some (.eqb true x y) | _ => none)
    | some .string, some x, some y => (match op with | .eql => some (.eqstr false x y) | .neq => some (.eqstr true x y) | _ => none)
    | some (.pointer _), some x, some (.c (.pointer none)) => (match op with | .eql => some (.nilp false x) | .neq => some (.nilp true x) | _ => none)
    | some (.slice _), some x, some (.c (.slice none 0 0)) => (match op with | .eql => some (.nils false x) | .neq => some (.nils true x) | _ => none)
    | some (.struct _), some x, some y => lowEq P op t x y
    | some (.array _ _), some x, some y => lowEq P op t x y
    | _, _, _ => none
  | .unOp op _ x => (lowOpd x).map (.un op ·)
  | .convert s t x => match P.underlying s, P.underlying t, lowOpd x with
    | some (.int _), some (.int k), some x => some (.cvt k x)
    | _, _, _ => none
  | .fieldAddr s x f => match P.underlying s, lowOpd x with
    | some (.struct fs), some x => match fs[f]? with
      | some fl => match szT P fl.type with
        | some (_ + 1) => some (.fa fl.offset x)
        | _ => none
      | none => none
    | _, _ => none
  | .indexAddr t x i => match lowOpd x, lowOpd i with
    | some x, some i => match P.underlying t with
      | some (.slice e) => (szT P e).map fun k => .ia k none x i
      | some (.array n e) => (szT P e).map fun k => .ia k (some n) x i
      | _ => none
    | _, _ => none
  | .field t x f => match P.underlying t, lowOpd x with
    | some (.struct fs), some x => match fs[f]? with
      | some fl => match aggT P fl.type, szT P fl.type with
        | some ag, some k => if ag = false ∧ k ≠ 1 then none else some (.fld fl.offset k ag x)
        | _, _ => none
      | none => none
    | _, _ => none
  | .index t x i => match P.underlying t, lowOpd x, lowOpd i with
    | some (.array n e), some x, some i => match aggT P e, szT P e with
      | some ag, some k => if ag = false ∧ k ≠ 1 then none else some (.ix k ag n x i)
      | _, _ => none
    | some .string, some x, some i => some (.ixs x i)
    | _, _, _ => none
  | .makeSlice t l k => match P.underlying t, lowOpd l, lowOpd k with
    | some (.slice e), some l, some k => match zT P e, P.info? e with
      | some p, some i => some (.mks e p.1 i.bytes p.2.1 p.2.2 l k)
      | _, _ => none
    | _, _, _ => none
  | .slice t x lo hi none => match P.underlying t, lowOpd x, lowO lo, lowO hi with
    | some (.slice e), some x, some lo, some hi => (szT P e).map fun k => .slc k x lo hi
    | _, _, _, _ => none
  | .extract x i => (lowOpd x).map (.ext i ·)
  | .makeFunc f p q => match lowL p.toList, lowL q.toList with
    | some p, some q => some (.mkf f p q)
    | _, _ => none
  | .makeInterface t x => match P.underlying t, lowOpd x with
    | some (.interface _), _ => none
    | some _, some x => some (.mki t x)
    | _, _ => none
  | .call c => match c.callee with
    | .builtin .len => match c.args.toList, c.argTypes.toList with
      | [x], [t] => match P.underlying t, lowOpd x with
        | some (.slice _), some x => some (.len x)
        | some .string, some x => some (.lens x)
        | _, _ => none
      | _, _ => none
    | .builtin .append => match c.args.toList, c.argTypes.toList with
      | [s, x], [t, t2] => match P.underlying t, P.underlying t2, lowOpd s, lowOpd x with
        | some (.slice e), some (.slice _), some s, some x => match zT P e, P.info? e with
          | some p, some i => if 0 < i.bytes then some (.app e p.1 i.bytes p.2.1 p.2.2 s x) else none
          | _, _ => none
        | _, _, _, _ => none
      | _, _ => none
    | .builtin .copy => match c.args.toList, c.argTypes.toList with
      | [x, y], [t, _] => match P.underlying t, lowOpd x, lowOpd y with
        | some (.slice e), some x, some y => (szT P e).map fun k => .cpy k x y
        | _, _, _ => none
      | _, _ => none
    | .value f => match lowOpd f, lowL c.args.toList with
      | some f, some q => some (.call f q)
      | _, _ => none
    | _ => none
  | _ => none

theorem lowOpd_c {x : Operand} {v : Value} (h : lowOpd x = some (.c v)) : x = .const v := by
  cases x <;> simp [lowOpd] at h
  rw [h]

theorem getH_put (H : Hp) (b : Nat) (k : Blk) : getH (putH H (some (b, k))) = upd (getH H) b (some k) := by
  funext x
  simp [putH, getH, upd]

section
variable {P : Program} {o : Oper} {a : Act} {w0 : World} {c : Cx} {id : Nat} {fr : Fr} {H : Hp}

theorem lowPs_spec (hF : FR c fr a.tmps) {place : Nat → Option (Nat × Nat)} : ∀ {ps : List (Nat × Operand)} {qs : List (Nat × Nat × Opd)}, lowPs place ps = some qs → Parts c place (ps.map fun (i, x) => (i, a.eval x)) (evP fr qs)
  | [], qs, h => by simp only [lowPs, Option.some.injEq] at h; subst h; exact .nil
  | (i, x) :: ps, qs, h => by
    simp only [lowPs] at h
    split at h
    · rename_i off sz y q h1 h2 h3
      simp only [Option.some.injEq] at h
      subst h
      exact .cons h1 (evR hF h2) (lowPs_spec hF h3)
    · simp at h
theorem lowQs_spec (hF : FR c fr a.tmps) : ∀ {ps : List (Nat × Operand)} {qs : List (Nat × Opd)}, lowQs ps = some qs → ps.length = (evQ fr qs).length ∧
    ∀ (k : Nat) (p : Nat × Value) (q : Nat × AV), (ps.map fun (i, x) => (i, a.eval x))[k]? = some p → (evQ fr qs)[k]? = some q → p.1 = q.1 ∧ VR c q.2 p.2
  | [], qs, h => by simp only [lowQs, Option.some.injEq] at h; subst h; simp [evQ]
  | (i, x) :: ps, qs, h => by
    simp only [lowQs] at h
    split at h
    · rename_i y q h1 h2
      simp only [Option.some.injEq] at h
      subst h
      obtain ⟨g1, g2⟩ := lowQs_spec hF h2
      refine ⟨by simp [evQ, g1], fun k p q hp hq => ?_⟩
      cases k with
      | zero =>
        simp [evQ] at hp hq
        subst hp hq
        exact ⟨rfl, evR hF h1⟩
      | succ k => exact g2 k p q (by simpa using hp) (by simpa [evQ] using hq)
    · simp at h
theorem lowL_spec (hF : FR c fr a.tmps) : ∀ {ps : List Operand} {qs : List Opd}, lowL ps = some qs → VRs c (evL fr qs) (ps.map a.eval)
  | [], qs, h => by simp only [lowL, Option.some.injEq] at h; subst h; simp only [evL, List.map_nil]; rw [VRs]
  | x :: ps, qs, h => by
    simp only [lowL] at h
    split at h
    · rename_i y q h1 h2
      simp only [Option.some.injEq] at h
      subst h
      simp only [evL, List.map_cons]
      rw [VRs]
      exact ⟨_, _, rfl, evR hF h1, lowL_spec hF h2⟩
    · simp at h

theorem look_spec {x : AV} {v : Value} {sz off : Nat} {e : AV} (h : Sim w0 c) (hH : c.H = getH H) (hv : VR c x v) (hl : lookA H x = some (sz, e, off)) :
    ∃ blk o' u, v = .pointer (some ⟨blk, o' + off, none⟩) ∧ At c.w blk o' sz u ∧ VR c e u ∧ off < sz := by
  cases x <;> simp only [lookA, reduceCtorEq] at hl
  · simp only [Option.some.injEq, Prod.mk.injEq] at hl
    obtain ⟨rfl, rfl, rfl⟩ := hl
    rw [VR] at hv
    obtain ⟨hi, ho, blk, o', rfl, _, hr⟩ := hv
    obtain ⟨u, h1, h2⟩ := VRow_get hr _ hi
    exact ⟨blk, _, u, rfl, h1, by rw [getD_any _ hi]; exact h2, ho⟩
  · rename_i b len i off'
    cases hb : getH H b with
    | none => rw [hb] at hl; simp at hl
    | some k =>
      obtain ⟨e', sz', d, es⟩ := k
      rw [hb] at hl
      simp only [Option.ite_none_right_eq_some, Option.some.injEq, Prod.mk.injEq] at hl
      obtain ⟨hlen, rfl, rfl, rfl⟩ := hl
      rw [VR] at hv
      obtain ⟨_, hi, ad, rfl, hr⟩ := hv
      rw [← hH] at hb
      obtain ⟨_, hr⟩ := hr _ _ _ _ hb
      obtain ⟨ho, blk, o', z, hρ, rfl⟩ := hr hlen
      obtain ⟨_, _, hrow⟩ := h.row b _ _ _ _ hb
      rcases hrow with ⟨h0, _⟩ | ⟨blk1, o1, z1, hρ1, _, _, _, hrow⟩
      · rw [hρ] at h0; cases h0
      · rw [hρ] at hρ1
        cases hρ1
        obtain ⟨u, h1, h2⟩ := VRow_get hrow i (by omega)
        exact ⟨blk, _, u, rfl, h1, by rw [getD_any _ (by omega)]; exact h2, ho⟩
end
end Go.Abs
