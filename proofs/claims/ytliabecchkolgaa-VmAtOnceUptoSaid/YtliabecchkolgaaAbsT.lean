/- A run by reduction alone: the code is walked by the reducer; what is to be shown stands out as questions. -/
import Derived.Test.YtliabecchkolgaaAbsR
namespace Go.Abs
open Go.RowKit

/-- A question. -/
structure Ask (p : Prop) : Prop where
  ok : p
def askG : Option Bool → Prop → Prop
  | none, p => Ask p
  | some g, p => Ask (g = true → p)
def Gd : Option Bool → Prop
  | none => True
  | some g => g = true
theorem askG_iff {g : Option Bool} {p : Prop} : askG g p ↔ (Gd g → p) := by
  cases g with
  | none => exact ⟨fun h _ => h.ok, fun h => ⟨h trivial⟩⟩
  | some g => exact ⟨fun h => h.ok, fun h => ⟨h⟩⟩

/-- What has been written in this region: each with the test behind which it stands. -/
abbrev Ov := List (Nat × Option Bool × AV)
def getO : Ov → Fr → Nat → Option Bool × AV
  | [], fr, t => (none, getF fr t)
  | (d, c, v) :: r, fr, t => bif Nat.beq t d then (c, v) else getO r fr t
def putO (ov : Ov) (d : Option Nat) (c : Option Bool) (v : AV) : Ov :=
  match d with
  | some d => (d, c, v) :: ov
  | none => ov
def plainO : Ov → Fr → Fr
  | [], fr => fr
  | (d, none, v) :: r, fr => (d, v) :: plainO r fr
  | (d, some _, _) :: r, fr => (d, .any) :: plainO r fr
def rawO (ov : Ov) (fr : Fr) : Opd → Option Bool × AV
  | .t n => getO ov fr n
  | .c v => (none, .sc v)
  | .f n => (none, .fn (.func n) [] [])

theorem beqN_ne {t d : Nat} (h : ¬ t = d) : Nat.beq t d = false := by
  cases hb : Nat.beq t d with
  | false => rfl
  | true => exact absurd (Nat.eq_of_beq_eq_true hb) h
/-- The true frame, seen through what is written. -/
def FrJ (f : Fr) (ov : Ov) (fr : Fr) : Prop :=
  ∀ t, match getO ov fr t with
    | (none, v) => getF f t = v
    | (some q, v) => (q = true → getF f t = v) ∧ (q = false → getF f t = .sc undef)
theorem FrJ.refl (fr : Fr) : FrJ fr [] fr := fun _ => rfl
theorem FrJ.put {f : Fr} {ov : Ov} {fr : Fr} (h : FrJ f ov fr) (d : Option Nat) (v : AV) : FrJ (putF f d v) (putO ov d none v) fr := by
  cases d with
  | none => exact h
  | some d =>
    intro t
    simp only [putO, putF, getO, getF]
    by_cases ht : t = d
    · subst ht; simp
    · have : Nat.beq t d = false := beqN_ne ht
      rw [this, if_neg ht]; exact h t
theorem FrJ.putG {f : Fr} {ov : Ov} {fr : Fr} (h : FrJ f ov fr) (d : Option Nat) {q : Bool} {u v : AV} (h1 : q = true → u = v) (h2 : q = false → u = .sc undef) : FrJ (putF f d u) (putO ov d (some q) v) fr := by
  cases d with
  | none => exact h
  | some d =>
    intro t
    simp only [putO, putF, getO, getF]
    by_cases ht : t = d
    · subst ht; simpa using ⟨h1, h2⟩
    · have : Nat.beq t d = false := beqN_ne ht
      rw [this, if_neg ht]; exact h t
theorem FrJ.raw {f : Fr} {ov : Ov} {fr : Fr} (h : FrJ f ov fr) (x : Opd) (hq : ∀ q, (rawO ov fr x).1 = some q → q = true) : ev f x = (rawO ov fr x).2 := by
  cases x with
  | t n =>
    have := h n
    simp only [ev, rawO] at hq ⊢
    split at this
    · rename_i v he; rw [this, he]
    · rename_i q v he; rw [he] at hq ⊢; exact this.1 (hq q rfl)
  | c v => rfl
  | f n => rfl
theorem getO_plain {fr : Fr} {t : Nat} : ∀ {ov : Ov}, getF (plainO ov fr) t = .any ∨ ∃ v, getO ov fr t = (none, v) ∧ getF (plainO ov fr) t = v
  | [] => .inr ⟨_, rfl, rfl⟩
  | (d, none, v) :: r => by
    simp only [plainO, getF, getO]
    by_cases ht : t = d
    · subst ht; simp
    · have : Nat.beq t d = false := beqN_ne ht
      rw [this, if_neg ht]; exact getO_plain
  | (d, some q, v) :: r => by
    simp only [plainO, getF, getO]
    by_cases ht : t = d
    · subst ht; simp
    · have : Nat.beq t d = false := beqN_ne ht
      rw [this, if_neg ht]; exact getO_plain

abbrev Raw := Opd → Option Bool × AV
def fetch (g : Option Bool) (R : Raw) (x : Opd) (K : AV → Prop) : Prop :=
  match R x with
  | (none, v) => K v
  | (some q, v) => askG g (q = true) ∧ K v
def okO (R : Raw) (x : Opd) : Prop := ∀ q, (R x).1 = some q → q = true
theorem fetch_iff {g : Option Bool} {R : Raw} {x : Opd} {K : AV → Prop} (h : fetch g R x K) : (Gd g → okO R x) ∧ K (R x).2 := by
  unfold fetch at h
  split at h
  · rename_i v he; rw [he]; exact ⟨fun _ q hq => (by rw [he] at hq; cases hq), h⟩
  · rename_i q v he
    rw [he]
    exact ⟨fun hg q' hq => (by rw [he] at hq; cases hq; exact askG_iff.1 h.1 hg), h.2⟩
def fetchL_nil (K : List AV → Prop) : Prop := K []
def fetchL_cons (g : Option Bool) (R : Raw) (x : Opd) (_ : List Opd) (ih : (List AV → Prop) → Prop) (K : List AV → Prop) : Prop := fetch g R x fun a => ih fun as => K (a :: as)
noncomputable def fetchL (g : Option Bool) (R : Raw) (xs : List Opd) : (List AV → Prop) → Prop := List.rec (motive := fun _ => (List AV → Prop) → Prop) fetchL_nil (fetchL_cons g R) xs
theorem fetchL_iff {g : Option Bool} {R : Raw} : ∀ {xs : List Opd} {K : List AV → Prop}, fetchL g R xs K → (Gd g → ∀ x ∈ xs, okO R x) ∧ K (xs.map fun x => (R x).2)
  | [], K, h => ⟨fun _ _ h => (by cases h), h⟩
  | x :: r, K, h => by
    obtain ⟨h1, h2⟩ := fetch_iff h
    obtain ⟨h3, h4⟩ := fetchL_iff h2
    refine ⟨fun hg y hy => ?_, h4⟩
    rcases List.mem_cons.1 hy with rfl | hy
    · exact h1 hg
    · exact h3 hg y hy
theorem evL_map {f : Fr} {R : Raw} : ∀ {xs : List Opd}, (∀ x ∈ xs, ev f x = (R x).2) → evL f xs = xs.map fun x => (R x).2
  | [], _ => rfl
  | x :: r, h => by
    simp only [evL, List.map_cons]
    rw [h x (by simp), evL_map fun y hy => h y (by simp [hy])]

/-- The value's outer form first. -/
def forceA (v : AV) (K : AV → Prop) : Prop :=
  match v with
  | .sc v => K (.sc v)
  | .any => K .any
  | .im a b c => K (.im a b c)
  | .ip a b c d e => K (.ip a b c d e)
  | .sl a b => K (.sl a b)
  | .pt a b c d => K (.pt a b c d)
  | .zc => K .zc
  | .agg a => K (.agg a)
  | .tup a => K (.tup a)
  | .fn a b c => K (.fn a b c)
  | .ifc a b => K (.ifc a b)
  | .mp a => K (.mp a)
  | .ab => K .ab
  | .sv a b c d => K (.sv a b c d)
theorem forceA_eq (v : AV) (K : AV → Prop) : forceA v K = K v := by cases v <;> rfl
def forceL_nil (K : List AV → Prop) : Prop := K []
def forceL_cons (a : AV) (_ : List AV) (ih : (List AV → Prop) → Prop) (K : List AV → Prop) : Prop := ih fun r' => K (a :: r')
noncomputable def forceL (l : List AV) : (List AV → Prop) → Prop := List.rec (motive := fun _ => (List AV → Prop) → Prop) forceL_nil forceL_cons l
theorem forceL_eq : ∀ (l : List AV) (K : List AV → Prop), forceL l K = K l
  | [], _ => rfl
  | a :: r, K => forceL_eq r fun r' => K (a :: r')

/-- A row of the own memory. -/
structure AtRow (H : Hp) (b : Nat) (K : TypeId → Nat → AV → List AV → Prop) : Prop where
  ok : ∃ e sz d es, getH H b = some (.row e sz d es) ∧ K e sz d es
theorem AtRow.of {H : Hp} {b : Nat} {K : TypeId → Nat → AV → List AV → Prop} {e : TypeId} {sz : Nat} {d : AV} {es : List AV} (h : getH H b = some (.row e sz d es)) (k : K e sz d es) : AtRow H b K := ⟨⟨e, sz, d, es, h, k⟩⟩
/-- An element of a list. -/
structure Elem (es : List AV) (i : Nat) (d : AV) (K : AV → Prop) : Prop where
  ok : K (es.getD i d)
theorem Elem.of {es : List AV} {i : Nat} {d : AV} {K : AV → Prop} {e : AV} (h : es.getD i d = e) (k : K e) : Elem es i d K := ⟨by rw [h]; exact k⟩
/-- What a reckoning gives. -/
structure Gives {α : Type} (x : Option α) (K : α → Prop) : Prop where
  ok : ∃ a, x = some a ∧ K a
theorem Gives.of {α : Type} {x : Option α} {K : α → Prop} {a : α} (h : x = some a) (k : K a) : Gives x K := ⟨⟨a, h, k⟩⟩

/-- A number that may wrap. -/
structure Ari (g : Option Bool) (k : IntKind) (n : Int) (K : Int → Prop) : Prop where
  ok : ∃ m, (Gd g → k.wrap n = m) ∧ K m
theorem Ari.of {g : Option Bool} {k : IntKind} {n : Int} {K : Int → Prop} {m : Int} (h : Gd g → k.wrap n = m) (hK : K m) : Ari g k n K := ⟨⟨m, h, hK⟩⟩

section
variable (g : Option Bool) (H : Hp)
def ldW (ag : Bool) (k : Nat) (e : AV) (sz off : Nat) (K : AV → Prop) : Prop :=
  match ag with
  | true => match e with
    | .agg cs => bif Nat.beq off 0 && Nat.beq k sz then K (.agg cs) else askG g (off + k ≤ cs.length) ∧ K (.agg ((cs.drop off).take k))
    | _ => False
  | false => match e with
    | .agg cs => Elem cs off .any fun v => forceA v K
    | .any => K .any
    | e => bif one e then forceA e K else False
def lookW (v : AV) (K : Nat → AV → Nat → Prop) : Prop :=
  match v with
  | .ip sz d es i off => Elem es i d fun e => K sz e off
  | .pt b len i off => AtRow H b fun _ sz d es => askG g (es.length = len) ∧ Elem es i d fun e => K sz e off
  | _ => False
/-- The element of a list that is read. -/
def elemsW (k : Nat) (v : AV) (K : List AV → Prop) : Prop :=
  match v with
  | .im sz _ es => bif Nat.beq sz k then K es else False
  | .sl b len => AtRow H b fun _ sz _ es => askG g (es.length = len ∧ sz = k) ∧ K es
  | .sc (.slice none 0 0) => K []
  | .zc => K []
  | .sv b len lo n => AtRow H b fun _ sz _ es => askG g (es.length = len ∧ sz = k) ∧ K ((es.drop lo).take n)
  | _ => False

/-- One step. -/
noncomputable def stepW (R : Raw) (id : Nat) (op : LOp) (K : AV → Option (Nat × Blk) → Prop) : Prop :=
  match op with
  | .mv x => fetch g R x fun a => forceA a fun a => K a none
  | .pick c a b => fetch g R c fun v => match v with
    | .sc (.bool t) =>
      let rest := fun (_ : Unit) => forceA (pickA t (R a).2 (R b).2) fun v => K v none
      let r2 := fun (_ : Unit) => match (R b).1 with
        | none => rest ()
        | some q => askG g (t = false → q = true) ∧ rest ()
      match (R a).1 with
      | none => r2 ()
      | some q => askG g (t = true → q = true) ∧ r2 ()
    | _ => False
  | .alloc e sz ag z => askG g (z.length = sz) ∧ K (.pt id 1 0 0) (some (id, .row e sz (zav ag z) [zav ag z]))
  | .box e sz ag x => fetch g R x fun v => askG g (fits ag sz v = true) ∧ K (.pt id 1 0 0) (some (id, .row e sz .any [v]))
  | .bld z parts => fetchL g R (parts.map (·.2.2)) fun as => Gives (fillA (z.map .sc) (List.zipWith (fun p a => (p.1, p.2.1, a)) parts as)) fun cs => K (.agg cs) none
  | .bsl e sz ag z n parts => fetchL g R (parts.map (·.2)) fun as =>
      askG g (z.length = sz ∧ (List.zipWith (fun p a => (p.1, a)) parts as).all (fun p => decide (p.1 < n) && fits ag sz p.2) = true) ∧
      K (.sl id n) (some (id, .row e sz (zav ag z) ((List.zipWith (fun p a => (p.1, a)) parts as).foldl (fun l p => l.set p.1 p.2) (List.replicate n (zav ag z)))))
  | .ld ag k x => fetch g R x fun v => lookW g H v fun sz e off => ldW g ag k e sz off fun r => K r none
  | .st ag k x y => fetch g R x fun v => fetch g R y fun yv => match v with
    | .pt b len i off => AtRow H b fun e sz d es => askG g (es.length = len) ∧ Elem es i d fun old => Gives (stE ag k old yv sz off) fun e' => K .any (some (b, .row e sz d (es.set i e')))
    | _ => False
  | .nck x => fetch g R x fun v => match v with
    | .pt b len i off => K (.pt b len i off) none
    | .ip sz d es i off => K (.ip sz d es i off) none
    | .fn (.func f) p q => K (.fn (.func f) p q) none
    | .ifc t v => K (.ifc t v) none
    | _ => False
  | .bin op x y => fetch g R x fun a => fetch g R y fun b => match op, a, b with
    | .add, .sc (.int k a), .sc (.int k' b) => askG g (k = k') ∧ Ari g k (a + b) fun m => K (.sc (.int k m)) none
    | .sub, .sc (.int k a), .sc (.int k' b) => askG g (k = k') ∧ Ari g k (a - b) fun m => K (.sc (.int k m)) none
    | .mul, .sc (.int k a), .sc (.int k' b) => askG g (k = k') ∧ Ari g k (a * b) fun m => K (.sc (.int k m)) none
    | .eql, .sc (.int k a), .sc (.int k' b) => askG g (k = k') ∧ K (.sc (.bool (decide (a = b)))) none
    | .neq, .sc (.int k a), .sc (.int k' b) => askG g (k = k') ∧ K (.sc (.bool (decide (a ≠ b)))) none
    | .lss, .sc (.int k a), .sc (.int k' b) => askG g (k = k') ∧ K (.sc (.bool (decide (a < b)))) none
    | .leq, .sc (.int k a), .sc (.int k' b) => askG g (k = k') ∧ K (.sc (.bool (decide (a ≤ b)))) none
    | .gtr, .sc (.int k a), .sc (.int k' b) => askG g (k = k') ∧ K (.sc (.bool (decide (b < a)))) none
    | .geq, .sc (.int k a), .sc (.int k' b) => askG g (k = k') ∧ K (.sc (.bool (decide (b ≤ a)))) none
    | .quo, .sc (.int k a), .sc (.int k' b) => askG g (k = k' ∧ b ≠ 0) ∧ K (.sc (.int k (k.wrap (a.tdiv b)))) none
    | .rem, .sc (.int k a), .sc (.int k' b) => askG g (k = k' ∧ b ≠ 0) ∧ K (.sc (.int k (a.tmod b))) none
    | .and, .sc (.int k a), .sc (.int k' b) => askG g (k = k') ∧ K (.sc (.int k (k.wrap (BitVec.ofInt k.bits a &&& BitVec.ofInt k.bits b).toNat))) none
    | .or, .sc (.int k a), .sc (.int k' b) => askG g (k = k') ∧ K (.sc (.int k (k.wrap (BitVec.ofInt k.bits a ||| BitVec.ofInt k.bits b).toNat))) none
    | .xor, .sc (.int k a), .sc (.int k' b) => askG g (k = k') ∧ K (.sc (.int k (k.wrap (BitVec.ofInt k.bits a ^^^ BitVec.ofInt k.bits b).toNat))) none
    | .andNot, .sc (.int k a), .sc (.int k' b) => askG g (k = k') ∧ K (.sc (.int k (k.wrap (BitVec.ofInt k.bits a &&& ~~~(BitVec.ofInt k.bits b)).toNat))) none
    | .shl, .sc (.int k a), .sc (.int _ b) => askG g (0 ≤ b) ∧ K (.sc (.int k (k.wrap (a * 2 ^ (min b.toNat k.bits))))) none
    | .shr, .sc (.int k a), .sc (.int _ b) => askG g (0 ≤ b) ∧ K (.sc (.int k (a.fdiv (2 ^ (min b.toNat k.bits))))) none
    | _, _, _ => False
  | .eqb neg x y => fetch g R x fun a => fetch g R y fun b => match a, b with
    | .sc (.bool p), .sc (.bool q) => (match neg with
      | true => K (.sc (.bool (p != q))) none
      | false => K (.sc (.bool (p == q))) none)
    | _, _ => False
  | .eqstr neg x y => fetch g R x fun a => fetch g R y fun b => match a, b with
    | .sc (.string p), .sc (.string q) => (match neg with
      | true => K (.sc (.bool (p != q))) none
      | false => K (.sc (.bool (p == q))) none)
    | _, _ => False
  | .un op x => fetch g R x fun a => match op, a with
    | .not, .sc (.bool b) => K (.sc (.bool !b)) none
    | .neg, .sc (.int k n) => Ari g k (0 - n) fun m => K (.sc (.int k m)) none
    | _, _ => False
  | .cvt k x => fetch g R x fun a => match a with
    | .sc (.int _ n) => Ari g k n fun m => K (.sc (.int k m)) none
    | _ => False
  | .fa off x => fetch g R x fun a => match a with
    | .ip sz d es i o => askG g (o + off < sz) ∧ K (.ip sz d es i (o + off)) none
    | .pt b len i o => AtRow H b fun _ sz _ es => askG g (es.length = len ∧ o + off < sz) ∧ K (.pt b len i (o + off)) none
    | _ => False
  | .ia k n x i => fetch g R x fun v => fetch g R i fun iv => match iv with
    | .sc (.int _ j) =>
      (match n with
       | none => match v with
         | .im sz d es => askG g (k = sz) ∧ askG g (0 ≤ j ∧ j < es.length) ∧ K (.ip sz d es j.toNat 0) none
         | .sl b len => AtRow H b fun _ sz _ es => askG g (es.length = len ∧ k = sz) ∧ askG g (0 ≤ j ∧ j < len) ∧ K (.pt b len j.toNat 0) none
         | .sv b len lo m => AtRow H b fun _ sz _ es => askG g (es.length = len ∧ k = sz) ∧ askG g (0 ≤ j ∧ j < m) ∧ K (.pt b len (lo + j.toNat) 0) none
         | _ => False
       | some m => match v with
         | .ip sz d es i off => askG g (off + m * k ≤ sz) ∧ askG g (0 ≤ j ∧ j < m) ∧ K (.ip sz d es i (off + j.toNat * k)) none
         | .pt b len i off => AtRow H b fun _ sz _ es => askG g (es.length = len ∧ off + m * k ≤ sz) ∧ askG g (0 ≤ j ∧ j < m) ∧ K (.pt b len i (off + j.toNat * k)) none
         | _ => False)
    | _ => False
  | .fld off k ag x => fetch g R x fun v => match v with
    | .agg cs => (match ag with
      | true => askG g (off + k ≤ cs.length) ∧ K (.agg ((cs.drop off).take k)) none
      | false => askG g (off + k ≤ cs.length ∧ k = 1) ∧ Elem cs off .any fun v => forceA v fun v => K v none)
    | _ => False
  | .ix k ag n x i => fetch g R x fun v => fetch g R i fun iv => match v, iv with
    | .agg cs, .sc (.int _ j) => askG g (n * k = cs.length) ∧ askG g (0 ≤ j ∧ j < n) ∧ (match ag with
      | true => K (.agg ((cs.drop (j.toNat * k)).take k)) none
      | false => askG g (k = 1) ∧ Elem cs (j.toNat * k) .any fun v => forceA v fun v => K v none)
    | _, _ => False
  | .ixs x i => fetch g R x fun v => fetch g R i fun iv => match v, iv with
    | .sc (.string s), .sc (.int _ j) => askG g (0 ≤ j ∧ j < s.size) ∧ K (.sc (.int .u8 (s.data.toList.getD j.toNat 0).toNat)) none
    | _, _ => False
  | .lens x => fetch g R x fun v => match v with
    | .sc (.string s) => K (.sc (.int .i64 s.size)) none
    | _ => False
  | .mks e sz bytes ag z l c => fetch g R l fun lv => fetch g R c fun cv => match lv, cv with
    | .sc (.int _ n), .sc (.int _ m) => askG g (z.length = sz ∧ n = m) ∧ askG g (0 ≤ n ∧ n * bytes ≤ 281474976710656 ∧ n ≤ 9223372036854775807) ∧
        K (.sl id n.toNat) (some (id, .row e sz (zav ag z) (List.replicate n.toNat (zav ag z))))
    | _, _ => False
  | .ext i x => fetch g R x fun v => match v with
    | .tup vs => askG g (i < vs.length) ∧ Elem vs i .any fun v => forceA v fun v => K v none
    | _ => False
  | .mkf f first caps => fetchL g R first fun a => fetchL g R caps fun b => K (.fn f a b) none
  | .mki t x => fetch g R x fun v => K (.ifc t v) none
  | .len x => fetch g R x fun v => match v with
    | .im _ _ es => K (.sc (.int .i64 (es.length : Int))) none
    | .sl b len => AtRow H b fun _ _ _ es => askG g (es.length = len) ∧ K (.sc (.int .i64 (len : Int))) none
    | .sc (.slice none 0 0) => K (.sc (.int .i64 0)) none
    | .zc => K (.sc (.int .i64 0)) none
    | .sv _ _ _ n => K (.sc (.int .i64 (n : Int))) none
    | _ => False
  | .app e sz bytes ag z s x => fetch g R s fun sv => fetch g R x fun xv => elemsW g H sz xv fun xs => askG g (z.length = sz) ∧ match sv with
    | .sc (.slice none 0 0) => askG g (xs.length * bytes ≤ maxB) ∧ K (.sl id xs.length) (some (id, .row e sz (zav ag z) xs))
    | .sl b len => AtRow H b fun e' sz' d es => askG g (es.length = len ∧ e' = e ∧ sz' = sz) ∧ askG g ((len + xs.length) * bytes ≤ maxB) ∧ K (.sl b (len + xs.length)) (some (b, .row e sz d (es ++ xs)))
    | _ => False
  | .nilp neg x => fetch g R x fun v => match v with
    | .pt _ _ _ _ => K (.sc (.bool neg)) none
    | .ip _ _ _ _ _ => K (.sc (.bool neg)) none
    | .sc (.pointer none) => K (.sc (.bool !neg)) none
    | _ => False
  | .nils neg x => fetch g R x fun v => Gives (nilA H v) fun t => forceA (tellB neg t) fun v => K v none
  | .eqs neg ks x y => fetch g R x fun a => fetch g R y fun b => match a, b with
    | .agg as, .agg bs => Gives (eqC ks as bs) fun t => (match neg with
      | true => K (.sc (.bool !t)) none
      | false => K (.sc (.bool t)) none)
    | _, _ => False
  | .slc sz x lo hi => fetch g R x fun v => fetchL g R (lo.toList ++ hi.toList) fun bs =>
      Gives (slcA H sz (match lo with | some _ => bs[0]? | none => none) (match hi with | some _ => (match lo with | some _ => bs[1]? | none => bs[0]?) | none => none) v) fun r => forceA r fun r => K r none
  | .cpy sz x y => fetch g R x fun xv => fetch g R y fun yv => match xv with
    | .sl b len => elemsW g H sz yv fun xs => AtRow H b fun e s d es => askG g (es.length = len ∧ s = sz) ∧
        K (.sc (.int .i64 (Nat.min xs.length len : Nat))) (some (b, .row e s d (xs.take (Nat.min xs.length len) ++ es.drop (Nat.min xs.length len))))
    | _ => False
  | .call _ _ => False
end

theorem evP_zip {f : Fr} {R : Raw} : ∀ {ps : List (Nat × Nat × Opd)}, (∀ x ∈ ps.map (·.2.2), ev f x = (R x).2) → evP f ps = List.zipWith (fun p a => (p.1, p.2.1, a)) ps ((ps.map (·.2.2)).map fun x => (R x).2)
  | [], _ => rfl
  | (i, j, x) :: ps, h => by
    simp only [evP, List.map_cons, List.zipWith_cons_cons]
    rw [h x (by simp), evP_zip fun y hy => h y (by simp only [List.map_cons, List.mem_cons]; exact .inr hy)]
theorem evQ_zip {f : Fr} {R : Raw} : ∀ {ps : List (Nat × Opd)}, (∀ x ∈ ps.map (·.2), ev f x = (R x).2) → evQ f ps = List.zipWith (fun p a => (p.1, a)) ps ((ps.map (·.2)).map fun x => (R x).2)
  | [], _ => rfl
  | (i, x) :: ps, h => by
    simp only [evQ, List.map_cons, List.zipWith_cons_cons]
    rw [h x (by simp), evQ_zip fun y hy => h y (by simp only [List.map_cons, List.mem_cons]; exact .inr hy)]

theorem ldW_sound {g : Option Bool} {ag : Bool} {k : Nat} {e : AV} {sz off : Nat} {K : AV → Prop} (h : ldW g ag k e sz off K) : ∃ r, K r ∧ (Gd g → ldE ag k e sz off = some r) := by
  unfold ldW at h
  cases ag with
  | true =>
    simp only at h
    cases e
    case agg cs =>
      simp only at h
      by_cases hb : off = 0 ∧ k = sz
      · have hb' : (Nat.beq off 0 && Nat.beq k sz) = true := by
          obtain ⟨rfl, rfl⟩ := hb; simp
        rw [hb'] at h
        exact ⟨_, h, fun _ => by simp [ldE, hb.1, hb.2]⟩
      · have hb' : (Nat.beq off 0 && Nat.beq k sz) = false := by
          cases hc : (Nat.beq off 0 && Nat.beq k sz) with
          | false => rfl
          | true =>
            rw [Bool.and_eq_true] at hc
            exact absurd ⟨Nat.eq_of_beq_eq_true hc.1, Nat.eq_of_beq_eq_true hc.2⟩ hb
        rw [hb'] at h
        simp only [cond_false] at h
        refine ⟨_, h.2, fun hg => ?_⟩
        have h1 := askG_iff.1 h.1 hg
        simp only [ldE, if_true]
        rw [if_neg hb, if_pos h1]
    all_goals exact h.elim
  | false =>
    have gen : ∀ e : AV, (bif one e then forceA e K else False) → (ldE false k e sz off = if one e then some e else none) → ∃ r, K r ∧ (Gd g → ldE false k e sz off = some r) := by
      intro e h1 h2
      cases ho : one e with
      | true => rw [ho, cond_true, forceA_eq] at h1; exact ⟨_, h1, fun _ => by rw [h2, ho]; rfl⟩
      | false => rw [ho] at h1; exact h1.elim
    cases e
    case agg cs =>
      simp only at h
      have := h.ok
      rw [forceA_eq] at this
      exact ⟨_, this, fun _ => by simp [ldE]⟩
    case any => exact ⟨_, h, fun _ => by simp [ldE]⟩
    all_goals exact gen _ h rfl
theorem lookW_sound {g : Option Bool} {H : Hp} {v : AV} {K : Nat → AV → Nat → Prop} (h : lookW g H v K) : ∃ sz e off, K sz e off ∧ (Gd g → lookA H v = some (sz, e, off)) := by
  unfold lookW at h
  split at h
  · exact ⟨_, _, _, h.ok, fun _ => rfl⟩
  · obtain ⟨e, sz, d, es, h1, h2, h3⟩ := h.ok
    refine ⟨_, _, _, h3.ok, fun hg => ?_⟩
    simp only [lookA, h1]
    rw [if_pos (askG_iff.1 h2 hg)]
  · exact h.elim
theorem elemsW_sound {g : Option Bool} {H : Hp} {k : Nat} {v : AV} {K : List AV → Prop} (h : elemsW g H k v K) : ∃ es, K es ∧ (Gd g → elemsA H v = some es ∧ szA H k v = true) := by
  unfold elemsW at h
  split at h
  · rename_i sz d es
    cases hb : Nat.beq sz k with
    | true => rw [hb] at h; exact ⟨_, h, fun _ => ⟨rfl, by simpa [szA] using hb⟩⟩
    | false => rw [hb] at h; exact h.elim
  · obtain ⟨e, sz, d, es, h1, h2, h3⟩ := h.ok
    refine ⟨_, h3, fun hg => ?_⟩
    obtain ⟨g1, g2⟩ := askG_iff.1 h2 hg
    simp [elemsA, szA, h1, g1, g2]
  · exact ⟨_, h, fun _ => ⟨rfl, rfl⟩⟩
  · exact ⟨_, h, fun _ => ⟨rfl, rfl⟩⟩
  · obtain ⟨e, sz, d, es, h1, h2, h3⟩ := h.ok
    refine ⟨_, h3, fun hg => ?_⟩
    obtain ⟨g1, g2⟩ := askG_iff.1 h2 hg
    simp [elemsA, szA, h1, g1, g2]
  · exact h.elim

set_option maxHeartbeats 4000000 in
theorem stepW_sound {g : Option Bool} {H : Hp} {R : Raw} {id : Nat} {op : LOp} {K : AV → Option (Nat × Blk) → Prop} (h : stepW g H R id op K) :
    ∃ r u, K r u ∧ (Gd g → (op.rd = true → ∀ x ∈ op.opds, okO R x) ∧ ∀ f, (∀ x, okO R x → ev f x = (R x).2) → stepL id f H op = some (r, u)) := by
  cases op
  case mv x =>
    obtain ⟨h1, h2⟩ := fetch_iff h
    rw [forceA_eq] at h2
    exact ⟨_, _, h2, fun hg => ⟨fun hr => by simp [LOp.rd] at hr, fun f hf => by simp only [stepL, hf x (h1 hg)]⟩⟩
  case pick c a b =>
    obtain ⟨h1, h2⟩ := fetch_iff h
    split at h2
    · rename_i t ht
      simp only [forceA_eq] at h2
      have key : ∀ {q : Option Bool} {p : Prop} {A : Prop}, (match q with | none => A | some q => askG g (p → q = true) ∧ A) → A ∧ (Gd g → p → ∀ q', q = some q' → q' = true) := by
        intro q p A h
        cases q with
        | none => exact ⟨h, fun _ _ _ hq => by cases hq⟩
        | some q => exact ⟨h.2, fun hg hp q' hq => by cases hq; exact askG_iff.1 h.1 hg hp⟩
      obtain ⟨h3, ha⟩ := key h2
      obtain ⟨h4, hb⟩ := key h3
      refine ⟨_, _, h4, fun hg => ⟨fun hr => by simp [LOp.rd] at hr, fun f hf => ?_⟩⟩
      simp only [stepL, hf c (h1 hg), ht]
      congr 2
      cases t with
      | true => rw [pickA_true, pickA_true, hf a (ha hg rfl)]
      | false => rw [pickA_false, pickA_false, hf b (hb hg rfl)]
    · exact h2.elim
  case alloc e sz ag z =>
    refine ⟨_, _, h.2, fun hg => ⟨fun hr => by simp [LOp.rd] at hr, fun f hf => ?_⟩⟩
    simp only [stepL]; rw [if_pos (askG_iff.1 h.1 hg)]
  case box e sz ag x =>
    obtain ⟨h1, h2⟩ := fetch_iff h
    refine ⟨_, _, h2.2, fun hg => ⟨fun hr => by simp [LOp.rd] at hr, fun f hf => ?_⟩⟩
    simp only [stepL, hf x (h1 hg)]; rw [if_pos (askG_iff.1 h2.1 hg)]
  case bld z ps =>
    obtain ⟨h1, h2⟩ := fetchL_iff h
    obtain ⟨cs, h3, h4⟩ := h2.ok
    refine ⟨_, _, h4, fun hg => ⟨fun hr => by simp [LOp.rd] at hr, fun f hf => ?_⟩⟩
    simp only [stepL]
    rw [evP_zip (R := R) fun x hx => hf x (h1 hg x hx), h3]
  case bsl e sz ag z n ps =>
    obtain ⟨h1, h2⟩ := fetchL_iff h
    refine ⟨_, _, h2.2, fun hg => ⟨fun hr => by simp [LOp.rd] at hr, fun f hf => ?_⟩⟩
    have h3 := askG_iff.1 h2.1 hg
    simp only [stepL]
    rw [evQ_zip (R := R) fun x hx => hf x (h1 hg x hx), if_pos h3]
  case ld ag k x =>
    obtain ⟨h1, h2⟩ := fetch_iff h
    obtain ⟨sz, e, off, h3, h4⟩ := lookW_sound h2
    obtain ⟨r, h5, h6⟩ := ldW_sound h3
    refine ⟨_, _, h5, fun hg => ⟨fun _ y hy => by simp [LOp.opds] at hy; subst hy; exact h1 hg, fun f hf => ?_⟩⟩
    simp only [stepL, hf x (h1 hg), h4 hg, h6 hg, Option.map_some]
  case st ag k x y =>
    obtain ⟨h1, h2⟩ := fetch_iff h
    obtain ⟨h3, h4⟩ := fetch_iff h2
    split at h4
    · rename_i b len i off hx
      obtain ⟨e, sz, d, es, g1, g2, g3⟩ := h4.ok
      obtain ⟨e', g4, g5⟩ := g3.ok.ok
      refine ⟨_, _, g5, fun hg => ⟨fun _ z hz => by simp [LOp.opds] at hz; rcases hz with rfl | rfl; exact h1 hg; exact h3 hg, fun f hf => ?_⟩⟩
      simp only [stepL, hf x (h1 hg), hf y (h3 hg), hx, g1, g4]
      rw [if_pos (askG_iff.1 g2 hg)]
    · exact h4.elim
  case nck x =>
    obtain ⟨h1, h2⟩ := fetch_iff h
    split at h2
    all_goals first
      | exact h2.elim
      | (rename_i hx; exact ⟨_, _, h2, fun hg => ⟨fun hr => by simp [LOp.rd] at hr, fun f hf => by simp only [stepL, hf x (h1 hg), hx]⟩⟩)
  case bin op x y =>
    obtain ⟨h1, h2⟩ := fetch_iff h
    obtain ⟨h3, h4⟩ := fetch_iff h2
    split at h4
    all_goals first
      | exact h4.elim
      | (rename_i hx hy; obtain ⟨q1, q2⟩ := h4; obtain ⟨m, q3, q4⟩ := q2.ok; refine ⟨_, _, q4, fun hg => ⟨fun hr => by simp [LOp.rd] at hr, fun f hf => ?_⟩⟩; simp only [stepL, hf x (h1 hg), hf y (h3 hg), hx, hy, binA]; rw [if_pos (askG_iff.1 q1 hg), q3 hg]; rfl)
      | (rename_i hx hy; refine ⟨_, _, h4.2, fun hg => ⟨fun hr => by simp [LOp.rd] at hr, fun f hf => ?_⟩⟩; simp only [stepL, hf x (h1 hg), hf y (h3 hg), hx, hy, binA]; rw [if_pos (askG_iff.1 h4.1 hg)]; rfl)
  case eqb neg x y =>
    obtain ⟨h1, h2⟩ := fetch_iff h
    obtain ⟨h3, h4⟩ := fetch_iff h2
    split at h4
    · rename_i p q hx hy
      cases neg
      all_goals exact ⟨_, _, h4, fun hg => ⟨fun hr => by simp [LOp.rd] at hr, fun f hf => by simp [stepL, hf x (h1 hg), hf y (h3 hg), hx, hy]⟩⟩
    · exact h4.elim
  case eqstr neg x y =>
    obtain ⟨h1, h2⟩ := fetch_iff h
    obtain ⟨h3, h4⟩ := fetch_iff h2
    split at h4
    · rename_i p q hx hy
      cases neg
      all_goals exact ⟨_, _, h4, fun hg => ⟨fun hr => by simp [LOp.rd] at hr, fun f hf => by simp [stepL, hf x (h1 hg), hf y (h3 hg), hx, hy]⟩⟩
    · exact h4.elim
  case un op x =>
    obtain ⟨h1, h2⟩ := fetch_iff h
    split at h2
    all_goals first
      | exact h2.elim
      | (rename_i hx; obtain ⟨m, q3, q4⟩ := h2.ok; exact ⟨_, _, q4, fun hg => ⟨fun hr => by simp [LOp.rd] at hr, fun f hf => by simp only [stepL, hf x (h1 hg), hx, unA, Option.map_some, q3 hg]⟩⟩)
      | (rename_i hx; exact ⟨_, _, h2, fun hg => ⟨fun hr => by simp [LOp.rd] at hr, fun f hf => by simp only [stepL, hf x (h1 hg), hx, unA, Option.map_some]⟩⟩)
  case cvt k x =>
    obtain ⟨h1, h2⟩ := fetch_iff h
    split at h2
    all_goals first
      | exact h2.elim
      | (rename_i hx; obtain ⟨m, q3, q4⟩ := h2.ok; exact ⟨_, _, q4, fun hg => ⟨fun hr => by simp [LOp.rd] at hr, fun f hf => by simp only [stepL, hf x (h1 hg), hx, q3 hg]⟩⟩)
  case fa off x =>
    obtain ⟨h1, h2⟩ := fetch_iff h
    have hr : Gd g → ((LOp.fa off x).rd = true → ∀ y ∈ (LOp.fa off x).opds, okO R y) := fun hg _ y hy => by simp [LOp.opds] at hy; subst hy; exact h1 hg
    split at h2
    · rename_i hx
      refine ⟨_, _, h2.2, fun hg => ⟨hr hg, fun f hf => ?_⟩⟩
      simp only [stepL, hf x (h1 hg), hx]; rw [if_pos (askG_iff.1 h2.1 hg)]
    · rename_i hx
      obtain ⟨e, sz, d, es, g1, g2, g3⟩ := h2.ok
      refine ⟨_, _, g3, fun hg => ⟨hr hg, fun f hf => ?_⟩⟩
      simp only [stepL, hf x (h1 hg), hx, g1]; rw [if_pos (askG_iff.1 g2 hg)]
    · exact h2.elim
  case ia k n x i =>
    obtain ⟨h1, h2⟩ := fetch_iff h
    obtain ⟨h3, h4⟩ := fetch_iff h2
    have hr : Gd g → ((LOp.ia k n x i).rd = true → ∀ y ∈ (LOp.ia k n x i).opds, okO R y) := fun hg _ y hy => by simp [LOp.opds] at hy; rcases hy with rfl | rfl; exact h1 hg; exact h3 hg
    split at h4
    · rename_i kk j hi
      cases n with
      | none =>
        simp only at h4
        split at h4
        · rename_i hx
          refine ⟨_, _, h4.2.2, fun hg => ⟨hr hg, fun f hf => ?_⟩⟩
          simp only [stepL, hf x (h1 hg), hf i (h3 hg), hx, hi, iaA]
          rw [if_pos ⟨askG_iff.1 h4.1 hg, askG_iff.1 h4.2.1 hg⟩]; rfl
        · rename_i hx
          obtain ⟨e, sz, d, es, g1, g2, g3, g4⟩ := h4.ok
          refine ⟨_, _, g4, fun hg => ⟨hr hg, fun f hf => ?_⟩⟩
          obtain ⟨q1, q2⟩ := askG_iff.1 g2 hg
          simp only [stepL, hf x (h1 hg), hf i (h3 hg), hx, hi, iaA, g1]
          rw [if_pos ⟨q1, q2, askG_iff.1 g3 hg⟩]; rfl
        · rename_i hx
          obtain ⟨e, sz, d, es, g1, g2, g3, g4⟩ := h4.ok
          refine ⟨_, _, g4, fun hg => ⟨hr hg, fun f hf => ?_⟩⟩
          obtain ⟨q1, q2⟩ := askG_iff.1 g2 hg
          simp only [stepL, hf x (h1 hg), hf i (h3 hg), hx, hi, iaA, g1]
          rw [if_pos ⟨q1, q2, askG_iff.1 g3 hg⟩]; rfl
        · exact h4.elim
      | some m =>
        simp only at h4
        split at h4
        · rename_i hx
          refine ⟨_, _, h4.2.2, fun hg => ⟨hr hg, fun f hf => ?_⟩⟩
          simp only [stepL, hf x (h1 hg), hf i (h3 hg), hx, hi, iaA]
          rw [if_pos ⟨askG_iff.1 h4.1 hg, askG_iff.1 h4.2.1 hg⟩]; rfl
        · rename_i hx
          obtain ⟨e, sz, d, es, g1, g2, g3, g4⟩ := h4.ok
          refine ⟨_, _, g4, fun hg => ⟨hr hg, fun f hf => ?_⟩⟩
          obtain ⟨q1, q2⟩ := askG_iff.1 g2 hg
          simp only [stepL, hf x (h1 hg), hf i (h3 hg), hx, hi, iaA, g1]
          rw [if_pos ⟨q1, q2, askG_iff.1 g3 hg⟩]; rfl
        · exact h4.elim
    · exact h4.elim
  case fld off k ag x =>
    obtain ⟨h1, h2⟩ := fetch_iff h
    split at h2
    · rename_i cs hx
      cases ag with
      | true =>
        refine ⟨_, _, h2.2, fun hg => ⟨fun hr => by simp [LOp.rd] at hr, fun f hf => ?_⟩⟩
        simp only [stepL, hf x (h1 hg), hx, if_true]; rw [if_pos (askG_iff.1 h2.1 hg)]
      | false =>
        have h3 := h2.2.ok
        rw [forceA_eq] at h3
        refine ⟨_, _, h3, fun hg => ⟨fun hr => by simp [LOp.rd] at hr, fun f hf => ?_⟩⟩
        obtain ⟨q1, q2⟩ := askG_iff.1 h2.1 hg
        simp only [stepL, hf x (h1 hg), hx, Bool.false_eq_true, if_false]; rw [if_pos q1, if_pos q2]
    · exact h2.elim
  case ix k ag n x i =>
    obtain ⟨h1, h2⟩ := fetch_iff h
    obtain ⟨h3, h4⟩ := fetch_iff h2
    split at h4
    · rename_i cs kk j hx hi
      obtain ⟨p1, p2, p3⟩ := h4
      cases ag with
      | true =>
        refine ⟨_, _, p3, fun hg => ⟨fun hr => by simp [LOp.rd] at hr, fun f hf => ?_⟩⟩
        have q2 := askG_iff.1 p2 hg
        simp only [stepL, hf x (h1 hg), hf i (h3 hg), hx, hi, if_true]; rw [if_pos ⟨q2.1, q2.2, askG_iff.1 p1 hg⟩]
      | false =>
        have h5 := p3.2.ok
        rw [forceA_eq] at h5
        refine ⟨_, _, h5, fun hg => ⟨fun hr => by simp [LOp.rd] at hr, fun f hf => ?_⟩⟩
        have q2 := askG_iff.1 p2 hg
        simp only [stepL, hf x (h1 hg), hf i (h3 hg), hx, hi, Bool.false_eq_true, if_false]; rw [if_pos ⟨q2.1, q2.2, askG_iff.1 p1 hg⟩, if_pos (askG_iff.1 p3.1 hg)]
    · exact h4.elim
  case ixs x i =>
    obtain ⟨h1, h2⟩ := fetch_iff h
    obtain ⟨h3, h4⟩ := fetch_iff h2
    split at h4
    · rename_i hx hi
      refine ⟨_, _, h4.2, fun hg => ⟨fun hr => by simp [LOp.rd] at hr, fun f hf => ?_⟩⟩
      simp only [stepL, hf x (h1 hg), hf i (h3 hg), hx, hi]; rw [if_pos (askG_iff.1 h4.1 hg)]
    · exact h4.elim
  case lens x =>
    obtain ⟨h1, h2⟩ := fetch_iff h
    split at h2
    all_goals first
      | exact h2.elim
      | (rename_i hx; exact ⟨_, _, h2, fun hg => ⟨fun hr => by simp [LOp.rd] at hr, fun f hf => by simp only [stepL, hf x (h1 hg), hx]⟩⟩)
  case mks e sz bytes ag z l c =>
    obtain ⟨h1, h2⟩ := fetch_iff h
    obtain ⟨h3, h4⟩ := fetch_iff h2
    split at h4
    · rename_i hx hi
      refine ⟨_, _, h4.2.2, fun hg => ⟨fun hr => by simp [LOp.rd] at hr, fun f hf => ?_⟩⟩
      obtain ⟨q1, q2⟩ := askG_iff.1 h4.1 hg
      obtain ⟨q3, q4, q5⟩ := askG_iff.1 h4.2.1 hg
      simp only [stepL, hf l (h1 hg), hf c (h3 hg), hx, hi]; rw [if_pos ⟨q1, q3, q2, q4, q5⟩]
    · exact h4.elim
  case ext i x =>
    obtain ⟨h1, h2⟩ := fetch_iff h
    split at h2
    · rename_i hx
      have h3 := h2.2.ok
      rw [forceA_eq] at h3
      refine ⟨_, _, h3, fun hg => ⟨fun hr => by simp [LOp.rd] at hr, fun f hf => ?_⟩⟩
      simp only [stepL, hf x (h1 hg), hx]; rw [if_pos (askG_iff.1 h2.1 hg)]
    · exact h2.elim
  case mkf fn first caps =>
    obtain ⟨h1, h2⟩ := fetchL_iff h
    obtain ⟨h3, h4⟩ := fetchL_iff h2
    refine ⟨_, _, h4, fun hg => ⟨fun hr => by simp [LOp.rd] at hr, fun f hf => ?_⟩⟩
    simp only [stepL]
    rw [evL_map (R := R) fun x hx => hf x (h1 hg x hx), evL_map (R := R) fun x hx => hf x (h3 hg x hx)]
  case mki t x =>
    obtain ⟨h1, h2⟩ := fetch_iff h
    exact ⟨_, _, h2, fun hg => ⟨fun hr => by simp [LOp.rd] at hr, fun f hf => by simp only [stepL, hf x (h1 hg)]⟩⟩
  case len x =>
    obtain ⟨h1, h2⟩ := fetch_iff h
    have hr : Gd g → ((LOp.len x).rd = true → ∀ y ∈ (LOp.len x).opds, okO R y) := fun hg _ y hy => by simp [LOp.opds] at hy; subst hy; exact h1 hg
    split at h2
    · rename_i hx; exact ⟨_, _, h2, fun hg => ⟨hr hg, fun f hf => by simp only [stepL, hf x (h1 hg), hx, lenA]⟩⟩
    · rename_i hx
      obtain ⟨e, sz, d, es, g1, g2, g3⟩ := h2.ok
      refine ⟨_, _, g3, fun hg => ⟨hr hg, fun f hf => ?_⟩⟩
      simp only [stepL, hf x (h1 hg), hx, lenA, g1]; rw [if_pos (askG_iff.1 g2 hg)]
    · rename_i hx; exact ⟨_, _, h2, fun hg => ⟨hr hg, fun f hf => by simp [stepL, hf x (h1 hg), hx, lenA]⟩⟩
    · rename_i hx; exact ⟨_, _, h2, fun hg => ⟨hr hg, fun f hf => by simp [stepL, hf x (h1 hg), hx, lenA]⟩⟩
    · rename_i hx; exact ⟨_, _, h2, fun hg => ⟨hr hg, fun f hf => by simp only [stepL, hf x (h1 hg), hx, lenA]⟩⟩
    · exact h2.elim
  case app e sz bytes ag z s x =>
    obtain ⟨h1, h2⟩ := fetch_iff h
    obtain ⟨h3, h4⟩ := fetch_iff h2
    obtain ⟨xs, ⟨h5, h5'⟩, h6⟩ := elemsW_sound h4
    have hr : Gd g → ((LOp.app e sz bytes ag z s x).rd = true → ∀ y ∈ (LOp.app e sz bytes ag z s x).opds, okO R y) := fun hg _ y hy => by simp [LOp.opds] at hy; rcases hy with rfl | rfl; exact h1 hg; exact h3 hg
    split at h5'
    · rename_i hx
      refine ⟨_, _, h5'.2, fun hg => ⟨hr hg, fun f hf => ?_⟩⟩
      obtain ⟨q1, q2⟩ := h6 hg
      simp only [stepL, hf s (h1 hg), hf x (h3 hg), hx, q1]; rw [if_pos ⟨q2, askG_iff.1 h5 hg⟩, if_pos (askG_iff.1 h5'.1 hg)]
    · rename_i hx
      obtain ⟨e', sz', d, es, g1, g2, g3, g4⟩ := h5'.ok
      refine ⟨_, _, g4, fun hg => ⟨hr hg, fun f hf => ?_⟩⟩
      obtain ⟨q1, q2⟩ := h6 hg
      obtain ⟨q3, q4, q5⟩ := askG_iff.1 g2 hg
      simp only [stepL, hf s (h1 hg), hf x (h3 hg), hx, q1, g1]; rw [if_pos ⟨q2, askG_iff.1 h5 hg⟩, if_pos ⟨q3, q4, q5, askG_iff.1 g3 hg⟩]
    · exact h5'.elim
  case nilp neg x =>
    obtain ⟨h1, h2⟩ := fetch_iff h
    split at h2
    all_goals first
      | exact h2.elim
      | (rename_i hx; exact ⟨_, _, h2, fun hg => ⟨fun hr => by simp [LOp.rd] at hr, fun f hf => by simp only [stepL, hf x (h1 hg), hx]⟩⟩)
  case nils neg x =>
    obtain ⟨h1, h2⟩ := fetch_iff h
    obtain ⟨t, h3, h4⟩ := h2.ok
    rw [forceA_eq] at h4
    refine ⟨_, _, h4, fun hg => ⟨fun _ y hy => by simp [LOp.opds] at hy; subst hy; exact h1 hg, fun f hf => ?_⟩⟩
    simp only [stepL, hf x (h1 hg), h3]
  case eqs neg ks x y =>
    obtain ⟨h1, h2⟩ := fetch_iff h
    obtain ⟨h3, h4⟩ := fetch_iff h2
    split at h4
    · rename_i hx hy
      obtain ⟨t, g1, g2⟩ := h4.ok
      cases neg
      all_goals exact ⟨_, _, g2, fun hg => ⟨fun hr => by simp [LOp.rd] at hr, fun f hf => by simp [stepL, hf x (h1 hg), hf y (h3 hg), hx, hy, g1]⟩⟩
    · exact h4.elim
  case slc sz x lo hi =>
    obtain ⟨h1, h2⟩ := fetch_iff h
    obtain ⟨h3, h4⟩ := fetchL_iff h2
    obtain ⟨r, g1, g2⟩ := h4.ok
    rw [forceA_eq] at g2
    refine ⟨_, _, g2, fun hg => ⟨fun _ y hy => ?_, fun f hf => ?_⟩⟩
    · simp only [LOp.opds, List.mem_append, List.mem_singleton] at hy
      rcases hy with (rfl | hy) | hy
      · exact h1 hg
      · exact h3 hg y (by simp only [List.mem_append]; exact .inl hy)
      · exact h3 hg y (by simp only [List.mem_append]; exact .inr hy)
    · simp only [stepL, hf x (h1 hg)]
      have e1 : ∀ y ∈ lo.toList ++ hi.toList, ev f y = (R y).2 := fun y hy => hf y (h3 hg y hy)
      cases lo <;> cases hi <;> simp_all
  case cpy sz x y =>
    obtain ⟨h1, h2⟩ := fetch_iff h
    obtain ⟨h3, h4⟩ := fetch_iff h2
    split at h4
    · rename_i b len hx
      obtain ⟨xs, h5, h6⟩ := elemsW_sound h4
      obtain ⟨e, s, d, es, g1, g2, g3⟩ := h5.ok
      refine ⟨_, _, g3, fun hg => ⟨fun _ z hz => by simp [LOp.opds] at hz; rcases hz with rfl | rfl; exact h1 hg; exact h3 hg, fun f hf => ?_⟩⟩
      obtain ⟨q1, q2⟩ := h6 hg
      obtain ⟨q3, q4⟩ := askG_iff.1 g2 hg
      simp only [stepL, hf x (h1 hg), hf y (h3 hg), hx, q1, g1]; rw [if_pos ⟨q3, q4, q2⟩]
    · exact h4.elim
  case call f as => exact h.elim
end Go.Abs
