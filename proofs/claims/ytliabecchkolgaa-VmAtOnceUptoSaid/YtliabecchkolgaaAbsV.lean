/- Marks for the walk: what is still to be reduced. -/
import Derived.Test.YtliabecchkolgaaAbsU
import Derived.Test.YtliabecchkolgaaAbsS
import Derived.IntWalk
namespace Go.Abs
open Go.RowKit

/-- Still to be reduced. -/
def Go (p : Prop) : Prop := p
theorem Go.red {p : Prop} (h : p) : Go p := h
theorem Go.and {p q : Prop} (h1 : Go p) (h2 : Go q) : p ∧ q := ⟨h1, h2⟩
theorem Go.elem {es : List AV} {i : Nat} {d : AV} {K : AV → Prop} {e : AV} (h : es.getD i d = e) (k : Go (K e)) : Elem es i d K := Elem.of h k
theorem Go.row {H : Hp} {b : Nat} {K : TypeId → Nat → AV → List AV → Prop} {e : TypeId} {sz : Nat} {d : AV} {es : List AV} (h : getH H b = some (.row e sz d es)) (k : Go (K e sz d es)) : AtRow H b K := AtRow.of h k
theorem Go.gives {α : Type} {x : Option α} {K : α → Prop} {a : α} (h : x = some a) (k : Go (K a)) : Gives x K := Gives.of h k
theorem wrap64 {n : Int} (h1 : -9223372036854775808 ≤ n) (h2 : n < 9223372036854775808) : IntKind.i64.wrap n = n := IntWalk.i64_in _ (by omega)
theorem wrapu8 {n : Int} (h1 : 0 ≤ n) (h2 : n < 256) : IntKind.u8.wrap n = n := by
  simp only [IntKind.wrap, IntKind.signed, IntKind.bits]
  first | omega | (simp; omega)
theorem Go.ari {g : Option Bool} {k : IntKind} {n : Int} {K : Int → Prop} {m : Int} (h : Gd g → k.wrap n = m) (hK : Go (K m)) : Ari g k n K := Ari.of h hK
theorem Go.ari0 {g : Option Bool} {k : IntKind} {n : Int} {K : Int → Prop} (hK : Go (K (k.wrap n))) : Ari g k n K := Ari.of (fun _ => rfl) hK
theorem Go.ari64 {g : Option Bool} {n : Int} {K : Int → Prop} (h1 : Gd g → -9223372036854775808 ≤ n) (h2 : Gd g → n < 9223372036854775808) (hK : Go (K n)) : Ari g .i64 n K := Ari.of (fun hg => wrap64 (h1 hg) (h2 hg)) hK
theorem Go.ariu8 {g : Option Bool} {n : Int} {K : Int → Prop} (h1 : Gd g → 0 ≤ n) (h2 : Gd g → n < 256) (hK : Go (K n)) : Ari g .u8 n K := Ari.of (fun hg => wrapu8 (h1 hg) (h2 hg)) hK
theorem Go.lt' {t : Bool} {A B : Prop} (ht : t = true) (h : Go A) : BoolC t A B := by subst ht; exact BoolC.lt h
theorem Go.lf' {t : Bool} {A B : Prop} (ht : t = false) (h : Go B) : BoolC t A B := by subst ht; exact BoolC.lf h
theorem Go.gt {t w : Bool} {A B J : Prop} (ht : t = w) (h : Go A) : GuardW t w A B J := by subst ht; exact ⟨.inl ⟨fun _ => h, fun h => absurd rfl h⟩⟩
theorem Go.gf {t w : Bool} {A B J : Prop} (ht : t = !w) (h : Go B) : GuardW t w A B J := ⟨.inl ⟨fun h2 => (by subst h2; cases t <;> cases ht), fun _ => h⟩⟩
theorem Go.lt {A B : Prop} (h : Go A) : BoolC true A B := BoolC.lt h
theorem Go.lf {A B : Prop} (h : Go B) : BoolC false A B := BoolC.lf h
theorem Go.bool {t : Bool} {A B : Prop} (h1 : t = true → Go A) (h2 : t = false → Go B) : BoolC t A B := BoolC.of h1 h2
theorem Go.tt {A B J : Prop} (h : Go A) : GuardW true true A B J := GuardW.tt h
theorem Go.ff {A B J : Prop} (h : Go A) : GuardW false false A B J := GuardW.ff h
theorem Go.tf {A B J : Prop} (h : Go B) : GuardW true false A B J := GuardW.tf h
theorem Go.ft {A B J : Prop} (h : Go B) : GuardW false true A B J := GuardW.ft h
theorem Go.join {t want : Bool} {A B J : Prop} (h : Go J) : GuardW t want A B J := GuardW.join h
theorem Go.split {t want : Bool} {A B J : Prop} (h1 : t = want → Go A) (h2 : t = !want → Go B) : GuardW t want A B J := GuardW.split h1 h2
/-- A result, its parts' outer forms first. -/
def forceT_nil (K : List AV → Prop) : Prop := K []
def forceT_cons (a : AV) (_ : List AV) (ih : (List AV → Prop) → Prop) (K : List AV → Prop) : Prop := forceA a fun a => ih fun r' => K (a :: r')
noncomputable def forceT (l : List AV) : (List AV → Prop) → Prop := List.rec (motive := fun _ => (List AV → Prop) → Prop) forceT_nil forceT_cons l
theorem forceT_eq : ∀ (l : List AV) (K : List AV → Prop), forceT l K = K l
  | [], _ => rfl
  | a :: r, K => by
    show forceA a (fun a => forceT r fun r' => K (a :: r')) = _
    rw [forceA_eq, forceT_eq r]
noncomputable def forceD (v : AV) (K : AV → Prop) : Prop :=
  match v with
  | .tup l => forceT l fun l => K (.tup l)
  | v => forceA v K
theorem forceD_eq (v : AV) (K : AV → Prop) : forceD v K = K v := by
  cases v <;> first | rfl | exact forceT_eq _ _
/-- What is left to show at a function's end. -/
structure Res (R : AV → Prop) (r : AV) : Prop where
  ok : fitA 0 r ∧ R r
theorem Res.eq {u : AV} {r : AV} (hf : fitA 0 u) (h : r = u) : Res (fun x => x = u) r := ⟨by rw [h]; exact hf, h⟩
structure ResN (R : AV → Hp → Nat → Prop) (r : AV) (H : Hp) (nx : Nat) : Prop where
  ok : R r H nx
noncomputable def retW (lrs : List LRes) (R : AV → Prop) : QT
  | .exit _, _, _, _ => False
  | _, fr, H, _ => Gives (resA fr H lrs) fun rs => forceD (frz H 6 (pack rs)) (Res R)
theorem retW_Q {lrs : List LRes} {R : AV → Prop} {e : Ex} {fr : Fr} {H : Hp} {nx : Nat} (h : retW lrs R e fr H nx) : retQ lrs R e fr H nx := by
  cases e
  case exit => exact h
  all_goals
    obtain ⟨rs, h1, h2⟩ := h.ok
    rw [forceD_eq] at h2
    simp only [retQ, h1, optK]
    exact h2.ok
noncomputable def retNW (lrs : List LRes) (R : AV → Hp → Nat → Prop) : QT
  | .exit _, _, _, _ => False
  | _, fr, H, nx => Gives (resA fr H lrs) fun rs => forceD (pack rs) fun r => ResN R r H nx
theorem retNW_Q {lrs : List LRes} {R : AV → Hp → Nat → Prop} {e : Ex} {fr : Fr} {H : Hp} {nx : Nat} (h : retNW lrs R e fr H nx) : retN lrs R e fr H nx := by
  cases e
  case exit => exact h
  all_goals
    obtain ⟨rs, h1, h2⟩ := h.ok
    rw [forceD_eq] at h2
    simp only [retN, h1, optK]
    exact h2.ok

section
variable {P : Program} {f : FuncId} {args : List AV} {H : Hp} {nx : Nat}
theorem Go.callW {r : AV} {K : AV → Hp → Nat → Prop} (h : Pure P f args (fun x => x = r)) (hf : fitL 0 args) (hK : Go (K r H nx)) : CallW P f args H nx K := CallW.det h hf hK
theorem Go.callR {R : AV → Prop} {K : AV → Hp → Nat → Prop} (h : Pure P f args R) (hf : fitL 0 args) (hK : ∀ r, R r → Go (K r H nx)) : CallW P f args H nx K := CallW.pure h hf hK
theorem Go.callN {R K : AV → Hp → Nat → Prop} (h : CallN P f args H nx R) (hK : ∀ r H' nx', R r H' nx' → Go (K r H' nx')) : CallW P f args H nx K := CallW.of h hK
theorem Go.callJ {g : Bool} {r : AV} {K : AV → Prop} (h : g = true → Pure P f args (fun x => x = r)) (hf : fitL 0 args) (hK : Go (K r)) : CallJ P g f args H nx K := CallJ.det h hf hK
theorem Go.callE {id : Nat} {r : AV} {K : AV → Option (Nat × Blk) → List Nat → Prop} (h : Pure P f args (fun x => x = r)) (hf : fitL 0 args) (hK : Go (K r none [])) : CallE P id f args H K := CallE.det h hf hK
theorem Go.callF {g : Bool} {id : Nat} {r : AV} {K : AV → List Nat → Prop} (h : g = true → Pure P f args (fun x => x = r)) (hf : fitL 0 args) (hK : Go (K r [])) : CallF P g id f args H K := CallF.det h hf hK
theorem Go.pure {fn : Func} {lc : LC} {lrs : List LRes} {R : AV → Prop} (hf : P.funcs[f]? = some fn) (hname : (fn.name == "runtime.NumGoroutine") = false)
    (hl : (fn.body.bind (lowCode P fn.ntmps)) = some lc) (hr : lowRes P fn.results.toList = some lrs) {n : Nat} (hn : n = fn.ntmps) (ha : Nat.ble args.length n = true)
    (h : Go (W P n 0 lc (initF 0 args) [] 0 (retW lrs R))) : Pure P f args R := by
  subst hn
  exact Pure.of_body2 hf hname hl hr (Nat.le_of_ble_eq_true ha) ((W_sound h).mono fun _ _ _ _ => retW_Q)
theorem Go.fn {fn : Func} {lc : LC} {lrs : List LRes} {R : AV → Hp → Nat → Prop} (hf : P.funcs[f]? = some fn) (hname : (fn.name == "runtime.NumGoroutine") = false)
    (hl : (fn.body.bind (lowCode P fn.ntmps)) = some lc) (hr : lowRes P fn.results.toList = some lrs) {n : Nat} (hn : n = fn.ntmps) (ha : Nat.ble args.length n = true)
    (h : Go (W P n nx lc (initF 0 args) H nx (retNW lrs R))) : CallN P f args H nx R := by
  subst hn
  exact CallN.of_body2 hf hname hl hr (Nat.le_of_ble_eq_true ha) ((W_sound h).mono fun _ _ _ _ => retNW_Q)
theorem Go.loop {n lo : Nat} {x : LC} {fr : Fr} {Q : QT} {σ : Type} (F : σ → Fr) (I : σ → Hp → Nat → Prop) (μ : σ → Nat) (s0 : σ) (h0 : lessF fr (F s0)) (h1 : I s0 H nx)
    (round : ∀ s H nx, I s H nx → Go (W P n lo x (F s) H nx (thenK (fun fr' H' nx' => ∃ s', μ s' < μ s ∧ lessF fr' (F s') ∧ I s' H' nx') Q))) : LoopW P n lo x fr H nx Q := LoopW.fr F I μ s0 h0 h1 round
/-- At a loop's head. -/
structure HeadW (P : Program) (n lo : Nat) (x : LC) (fr : Fr) (H : Hp) (nx : Nat) (Q : QT) : Prop where
  ok : ∀ c1, lowCode P n c1 = some x → ∀ w0 M0 c0 a w, Holds w0 M0 c0 lo n fr H nx a w → ∀ b k cs, ∃ e a' w', LQ w0 M0 c0 lo n Q e a' w' ∧ Arrives P (lone (b.at a (.code c1 :: .inLoop c1 :: k)) cs w) b k cs e a' w'
theorem Go.head {n lo : Nat} {x : LC} {fr : Fr} {Q : QT} (h : HeadW P n lo x fr H nx Q) : LoopW P n lo x fr H nx Q := by
  refine ⟨fun code hc w0 M0 c0 a w hh => ?_⟩
  have : ∃ c1, code = .loop c1 ∧ lowCode P n c1 = some x := by
    cases code <;> simp only [lowCode] at hc
    case loop c1 =>
      simp only [Option.map_eq_some_iff, LC.loop.injEq] at hc
      obtain ⟨x', h1, rfl⟩ := hc
      exact ⟨c1, rfl, h1⟩
    all_goals (exfalso; repeat' (split at hc)) <;> simp at hc
  obtain ⟨c1, rfl, h1⟩ := this
  intro b k cs
  obtain ⟨e, a', w', hq, harr⟩ := h.ok c1 h1 w0 M0 c0 a w hh b k cs
  exact ⟨e, a', w', hq, .of_steps (.one step_loop) harr⟩
/-- One round. -/
theorem Go.unroll {n lo : Nat} {x : LC} {fr : Fr} {Q : QT} (h : Go (W P n lo x fr H nx (thenK (fun fr H nx => HeadW P n lo x fr H nx Q) Q))) : HeadW P n lo x fr H nx Q := by
  refine ⟨fun c1 h1 w0 M0 c0 a w hh b k cs => ?_⟩
  obtain ⟨e, a1, w1, hq, harr⟩ := W_sound h c1 h1 w0 M0 c0 a w hh b (.inLoop c1 :: k) cs
  obtain ⟨x', fr', H', nx', rfl, hQ, hh'⟩ := hq
  cases x' with
  | normal =>
    obtain ⟨e2, a2, w2, hq2, harr2⟩ := hQ.ok c1 h1 w0 M0 c0 a1 w1 hh' b k cs
    exact ⟨e2, a2, w2, hq2, .of_steps (Steps.trans harr (.one step_inLoop)) harr2⟩
  | exit id => exact ⟨_, a1, w1, ⟨.exit id, fr', H', nx', rfl, hQ, hh'⟩, .pass (x := .inLoop c1) rfl (fun _ _ => .inl (by simp [Ex.to])) harr⟩
  | ret => exact ⟨_, a1, w1, ⟨.ret, fr', H', nx', rfl, hQ, hh'⟩, .pass (x := .inLoop c1) rfl (fun _ _ => .inl (by simp [Ex.to])) harr⟩
end
theorem getD_map {α : Type} (f : α → AV) (l : List α) (i : Nat) (a : α) (d : AV) (h : l[i]? = some a) : (l.map f).getD i d = f a := by simp [List.getD, h]
theorem getD_av {α : Type} [Inhabited α] (f : α → AV) (l : List α) (i : Nat) (d : AV) (h : i < l.length) : (l.map f).getD i d = f (l.getD i default) := by simp [List.getD, h]
theorem getH_here (H : Hp) (b : Nat) (k : Option Blk) : getH ((b, k) :: H) b = k := by simp [getH]
theorem getH_skip {H : Hp} {b d : Nat} {v k : Option Blk} (hne : b ≠ d) (h : getH H b = k) : getH ((d, v) :: H) b = k := by simp [getH, hne, h]
end Go.Abs
