/- Code as a whole: rules, one a form; what may be forgotten. -/
import Derived.Test.YtliabecchkolgaaAbsK
namespace Go.Abs
open Go.RowKit

def opdTs : Opd → List Nat
  | .t n => [n]
  | _ => []
def LOp.opds : LOp → List Opd
  | .mv x | .box _ _ _ x | .ld _ _ x | .nck x | .un _ x | .cvt _ x | .fa _ x | .fld _ _ _ x | .ext _ x | .mki _ x | .len x | .lens x | .nilp _ x | .nils _ x => [x]
  | .slc _ x lo hi => [x] ++ lo.toList ++ hi.toList
  | .pick a b c => [a, b, c]
  | .alloc .. => []
  | .bld _ ps => ps.map (·.2.2)
  | .bsl _ _ _ _ _ ps => ps.map (·.2)
  | .cpy _ x y | .eqs _ _ x y | .st _ _ x y | .bin _ x y | .eqb _ x y | .eqstr _ x y | .ia _ _ x y | .ix _ _ _ x y | .ixs x y | .mks _ _ _ _ _ x y | .app _ _ _ _ _ x y => [x, y]
  | .mkf _ p q => p ++ q
  | .call f as => f :: as
def GOp.ts (g : GOp) : List Nat := (match g.guard with | some (d, _) => [d] | none => []) ++ g.op.opds.flatMap opdTs
/-- May it read own rows? May it write one? -/
def LOp.rd : LOp → Bool
  | .call .. | .ld .. | .st .. | .fa .. | .ia .. | .len .. | .app .. | .nils .. | .slc .. | .cpy .. => true
  | _ => false
def LOp.wr : LOp → Bool
  | .call .. | .st .. | .cpy .. | .app .. | .alloc .. | .box .. | .bsl .. | .mks .. => true
  | _ => false

def preds (ops : Array Oper) (k : Nat) : List Nat :=
  match ops[k]? with
  | some o => o.after.toList.filterMap fun e => if Region.binds .any e then some e.on else none
  | none => []
def anc1 (acc : List Nat) : List Nat → Nat
  | [] => 0
  | p :: r => (1 <<< p) ||| (acc.getD p 0 ||| anc1 acc r)
def ancL : List (List Nat) → List Nat → List Nat
  | [], acc => acc
  | ps :: r, acc => ancL r (acc ++ [anc1 acc ps])
/-- What each operation waits for, at once or by others: bits. -/
def ancs (ops : Array Oper) : List Nat := ancL ((List.range ops.size).map (preds ops)) []
def bothWays (an : List Nat) (i j : Nat) : Bool := (an.getD j 0).testBit i
def apartT (g h : GOp) : Bool :=
  (match g.dst with | some d => !h.ts.contains d && h.dst != some d | none => true) && (match h.dst with | some d => !g.ts.contains d | none => true)
def pairsTo (N : Nat) : List (Nat × Nat) := (List.range N).flatMap fun j => (List.range j).map fun i => (i, j)
/-- All from k on waits for all that is ahead. -/
def cutAt (an : List Nat) (N k : Nat) : Bool := (List.range (N - k)).all fun j => (an.getD (k + j) 0) % 2 ^ k == 2 ^ k - 1
def cutsOf (an : List Nat) (N : Nat) : List Nat := (List.range (N + 1)).filter fun k => decide (0 < k) && cutAt an N k
def segGo (an : List Nat) (N : Nat) (gs : List GOp) : Nat → List Nat → Option (List Seg)
  | lo, [] => if lo = N then some [] else none
  | lo, c :: r =>
    let ws := (gs.drop lo).take (c - lo)
    let free := (pairsTo ws.length).filter fun p => !bothWays an (lo + p.1) (lo + p.2)
    if ((decide (lo < c) && decide (c ≤ N)) && cutAt an N c) && free.all fun p => apartT (ws.getD p.1 default) (ws.getD p.2 default) then
      (segGo an N gs c r).map (⟨ws, free.filter fun p => ((ws.getD p.1 default).op.wr && (ws.getD p.2 default).op.rd) || ((ws.getD p.1 default).op.rd && (ws.getD p.2 default).op.wr)⟩ :: ·)
    else none
def drawOk (ops : Array Oper) (gs : List GOp) : Option (List Seg) :=
  if ((List.range ops.size).all fun k => (preds ops k).all fun p => decide (p < k)) then segGo (ancs ops) ops.size gs 0 (cutsOf (ancs ops) ops.size) else none

def lowCode (P : Program) (n : Nat) : Code → Option LC
  | .skip => some .skip
  | .region _ ops draw => match lowGs P n ops ops.toList with
    | some gs => if draw then (if P.follows .mixedOrders then (drawOk ops gs).map .drawn else none) else some (.region gs)
    | none => none
  | .seq a b => match lowCode P n a, lowCode P n b with
    | some a, some b => some (.seq a b)
    | _, _ => none
  | .cond c a b => match lowOpd c, lowCode P n a, lowCode P n b with
    | some c, some a, some b => some (.cond c a b)
    | _, _, _ => none
  | .block id c => (lowCode P n c).map (.block id ·)
  | .loop c => (lowCode P n c).map .loop
  | .exit id => some (.exit id)
  | .ret => some .ret
  | _ => none

/-- How a run ends. -/
inductive Ex where
  | normal
  | exit (id : Nat)
  | ret
def Ex.to : Ex → Exit
  | .normal => .normal
  | .exit id => .exit id
  | .ret => .ret

abbrev QT := Ex → Fr → Hp → Nat → Prop
def LQ (w0 : World) (M0 : Nat → Prop) (c0 : Cx) (lo n : Nat) (Q : QT) : Exit → Act → World → Prop := fun e a w => ∃ x fr H nx, e = x.to ∧ Q x fr H nx ∧ Holds w0 M0 c0 lo n fr H nx a w

/-- The code, run from what is known, ends as 'Q' says. -/
def WL (P : Program) (n lo : Nat) (lc : LC) (fr : Fr) (H : Hp) (nx : Nat) (Q : QT) : Prop :=
  ∀ code, lowCode P n code = some lc → ∀ w0 M0 c0 a w, Holds w0 M0 c0 lo n fr H nx a w → code.wp P (LQ w0 M0 c0 lo n Q) a w

def thenK (K : Fr → Hp → Nat → Prop) (Q : QT) : QT
  | .normal => K
  | e => Q e
def blockQ (id : Nat) (Q : QT) : QT
  | .exit id', fr, H, nx => if id' = id then Q .normal fr H nx else Q (.exit id') fr H nx
  | e, fr, H, nx => Q e fr H nx
theorem thenK_normal (K : Fr → Hp → Nat → Prop) (Q : QT) : thenK K Q .normal = K := rfl
theorem thenK_ret (K : Fr → Hp → Nat → Prop) (Q : QT) : thenK K Q .ret = Q .ret := rfl
theorem thenK_exit (K : Fr → Hp → Nat → Prop) (Q : QT) (id : Nat) : thenK K Q (.exit id) = Q (.exit id) := rfl
theorem blockQ_normal (id : Nat) (Q : QT) : blockQ id Q .normal = Q .normal := rfl
theorem blockQ_ret (id : Nat) (Q : QT) : blockQ id Q .ret = Q .ret := rfl
theorem blockQ_exit (id id' : Nat) (Q : QT) : blockQ id Q (.exit id') = if id' = id then Q .normal else Q (.exit id') := by
  funext fr H nx; simp only [blockQ]; split <;> rfl

section
variable {P : Program} {n lo : Nat} {fr : Fr} {H : Hp} {nx : Nat} {Q : QT}

theorem WL.mono {lc : LC} {Q' : QT} (h : WL P n lo lc fr H nx Q) (hq : ∀ e fr H nx, Q e fr H nx → Q' e fr H nx) : WL P n lo lc fr H nx Q' :=
  fun code hc w0 M0 c0 a w hh => Code.wp_mono (fun _ _ _ ⟨x, fr, H, nx, he, hQ, hhh⟩ => ⟨x, fr, H, nx, he, hq _ _ _ _ hQ, hhh⟩) (h code hc w0 M0 c0 a w hh)

theorem WL.skip (h : Q .normal fr H nx) : WL P n lo .skip fr H nx Q := by
  intro code hc w0 M0 c0 a w hh
  have : code = .skip := by
    cases code <;> simp only [lowCode] at hc
    all_goals first | rfl | (exfalso; repeat' (split at hc)) <;> simp at hc
  subst this
  exact wp_skip ⟨.normal, fr, H, nx, rfl, h, hh⟩

theorem WL.ret (h : Q .ret fr H nx) : WL P n lo .ret fr H nx Q := by
  intro code hc w0 M0 c0 a w hh
  have : code = .ret := by
    cases code <;> simp only [lowCode] at hc
    all_goals first | rfl | (exfalso; repeat' (split at hc)) <;> simp at hc
  subst this
  exact wp_ret ⟨.ret, fr, H, nx, rfl, h, hh⟩

theorem WL.exit {id : Nat} (h : Q (.exit id) fr H nx) : WL P n lo (.exit id) fr H nx Q := by
  intro code hc w0 M0 c0 a w hh
  have : code = .exit id := by
    cases code <;> simp only [lowCode] at hc
    case exit id' => simp at hc; rw [hc]
    all_goals (exfalso; repeat' (split at hc)) <;> simp at hc
  subst this
  exact wp_exit ⟨.exit id, fr, H, nx, rfl, h, hh⟩

theorem WL.seq {x y : LC} (h : WL P n lo x fr H nx (thenK (fun fr H nx => WL P n lo y fr H nx Q) Q)) : WL P n lo (.seq x y) fr H nx Q := by
  intro code hc w0 M0 c0 a w hh
  have : ∃ c1 c2, code = .seq c1 c2 ∧ lowCode P n c1 = some x ∧ lowCode P n c2 = some y := by
    cases code <;> simp only [lowCode] at hc
    case seq c1 c2 =>
      split at hc
      · rename_i x' y' h1 h2
        simp only [Option.some.injEq, LC.seq.injEq] at hc
        obtain ⟨rfl, rfl⟩ := hc
        exact ⟨c1, c2, rfl, h1, h2⟩
      · simp at hc
    all_goals (exfalso; repeat' (split at hc)) <;> simp at hc
  obtain ⟨c1, c2, rfl, h1, h2⟩ := this
  refine wp_seq (Code.wp_mono ?_ (h c1 h1 w0 M0 c0 a w hh))
  rintro e a' w' ⟨x', fr', H', nx', rfl, hQ, hh'⟩
  cases x' with
  | normal => exact hQ c2 h2 w0 M0 c0 a' w' hh'
  | exit id => exact ⟨.exit id, fr', H', nx', rfl, hQ, hh'⟩
  | ret => exact ⟨.ret, fr', H', nx', rfl, hQ, hh'⟩

/-- The same, what follows behind a letter. -/
theorem WL.seq_k {x y : LC} (h : ∀ K : Fr → Hp → Nat → Prop, (∀ fr H nx, WL P n lo y fr H nx Q → K fr H nx) → WL P n lo x fr H nx (thenK K Q)) : WL P n lo (.seq x y) fr H nx Q :=
  WL.seq (h _ fun _ _ _ h => h)

theorem WL.cond {c : Opd} {x y : LC} {t : Bool} (hc : ev fr c = .sc (.bool t)) (h1 : t = true → WL P n lo x fr H nx Q) (h2 : t = false → WL P n lo y fr H nx Q) : WL P n lo (.cond c x y) fr H nx Q := by
  intro code hcode w0 M0 c0 a w hh
  have : ∃ c' c1 c2, code = .cond c' c1 c2 ∧ lowOpd c' = some c ∧ lowCode P n c1 = some x ∧ lowCode P n c2 = some y := by
    cases code <;> simp only [lowCode] at hcode
    case cond c' c1 c2 =>
      split at hcode
      · rename_i c'' x' y' g1 g2 g3
        simp only [Option.some.injEq, LC.cond.injEq] at hcode
        obtain ⟨rfl, rfl, rfl⟩ := hcode
        exact ⟨c', c1, c2, rfl, g1, g2, g3⟩
      · simp at hcode
    all_goals (exfalso; repeat' (split at hcode)) <;> simp at hcode
  obtain ⟨c', c1, c2, rfl, g1, g2, g3⟩ := this
  have hh' := hh
  obtain ⟨_, _, ρ, U, _, _, hF, _⟩ := hh'
  have hv := evR hF g1
  rw [hc, VR] at hv
  exact wp_cond_split hv (fun ht => h1 ht c1 g2 w0 M0 c0 a w hh) (fun ht => h2 ht c2 g3 w0 M0 c0 a w hh)

theorem WL.block {id : Nat} {x : LC} (h : WL P n lo x fr H nx (blockQ id Q)) : WL P n lo (.block id x) fr H nx Q := by
  intro code hc w0 M0 c0 a w hh
  have : ∃ c1, code = .block id c1 ∧ lowCode P n c1 = some x := by
    cases code <;> simp only [lowCode] at hc
    case block id' c1 =>
      simp only [Option.map_eq_some_iff, LC.block.injEq] at hc
      obtain ⟨x', h1, rfl, rfl⟩ := hc
      exact ⟨c1, rfl, h1⟩
    all_goals (exfalso; repeat' (split at hc)) <;> simp at hc
  obtain ⟨c1, rfl, h1⟩ := this
  refine wp_block (Code.wp_mono ?_ (h c1 h1 w0 M0 c0 a w hh))
  rintro e a' w' ⟨x', fr', H', nx', rfl, hQ, hh'⟩
  cases x' with
  | normal => exact ⟨.normal, fr', H', nx', rfl, hQ, hh'⟩
  | exit id' =>
    simp only [Ex.to, Exit.inBlock]
    simp only [blockQ] at hQ
    split
    · rename_i he; rw [if_pos he] at hQ; exact ⟨.normal, fr', H', nx', rfl, hQ, hh'⟩
    · rename_i he; rw [if_neg he] at hQ; exact ⟨.exit id', fr', H', nx', rfl, hQ, hh'⟩
  | ret => exact ⟨.ret, fr', H', nx', rfl, hQ, hh'⟩

theorem WL.region {gs : List GOp} (h : RunOps P nx gs fr H (fun fr H nx => Q .normal fr H nx)) : WL P n lo (.region gs) fr H nx Q := by
  intro code hc w0 M0 c0 a w hh
  have : ∃ id ops, code = .region id ops false ∧ lowGs P n ops ops.toList = some gs := by
    cases code <;> simp only [lowCode] at hc
    case region id ops draw =>
      split at hc
      · rename_i gs' h1
        cases draw with
        | false =>
          simp only [Bool.false_eq_true, if_false, Option.some.injEq, LC.region.injEq] at hc
          subst hc
          exact ⟨id, ops, rfl, h1⟩
        | true =>
          exfalso
          simp only [if_true] at hc
          split at hc
          · simp [Option.map_eq_some_iff] at hc
          · simp at hc
      · simp at hc
    all_goals (exfalso; repeat' (split at hc)) <;> simp at hc
  obtain ⟨id, ops, rfl, h1⟩ := this
  refine wp_region_list (runOps_sound h1 hh h fun fr' H' nx' a' w' hK hh' => ⟨.normal, fr', H', nx', rfl, hK, hh'⟩)

/-- What is known may be forgotten. -/
def Weak (lo n : Nat) (fr : Fr) (H : Hp) (nx : Nat) (fr' : Fr) (H' : Hp) (nx' : Nat) : Prop :=
  ∀ w0 M0 c0 a w, Holds w0 M0 c0 lo n fr H nx a w → Holds w0 M0 c0 lo n fr' H' nx' a w

theorem WL.weak {lc : LC} {fr' : Fr} {H' : Hp} {nx' : Nat} (hw : Weak lo n fr H nx fr' H' nx') (h : WL P n lo lc fr' H' nx' Q) : WL P n lo lc fr H nx Q :=
  fun code hc w0 M0 c0 a w hh => h code hc w0 M0 c0 a w (hw w0 M0 c0 a w hh)

def sameRow : Option Blk → Option Blk → Prop
  | some (.row e sz _ es), some (.row e' sz' _ es') => e = e' ∧ sz = sz' ∧ es = es'
  | _, none => True
  | none, some _ => False
def fitB (n : Nat) : Option Blk → Prop
  | some (.row _ _ _ es) => fitL n es
  | none => True

def frOk (nx : Nat) (fr : Fr) : Fr → Prop
  | [] => True
  | (t, v) :: r => (v = .any ∨ (getF fr t = v ∧ fitA nx v)) ∧ frOk nx fr r
def hpOk (nx : Nat) (H : Hp) : Hp → Prop
  | [] => True
  | (b, k) :: r => (b < nx ∧ sameRow (getH H b) k ∧ fitB nx k) ∧ hpOk nx H r

theorem frOk_get {fr : Fr} {nx : Nat} : ∀ {fr' : Fr}, frOk nx fr fr' → ∀ t, getF fr' t = .any ∨ (getF fr t = getF fr' t ∧ fitA nx (getF fr' t))
  | [], _, t => .inl rfl
  | (d, v) :: r, h, t => by
    simp only [frOk] at h
    simp only [getF]
    by_cases ht : t = d
    · subst ht
      rw [if_pos rfl]
      exact h.1
    · rw [if_neg ht]
      exact frOk_get h.2 t
theorem hpOk_get {H : Hp} {nx : Nat} : ∀ {H' : Hp}, hpOk nx H H' → ∀ b, getH H' b = none ∨ (b < nx ∧ sameRow (getH H b) (getH H' b) ∧ fitB nx (getH H' b))
  | [], _, b => .inl rfl
  | (d, k) :: r, h, b => by
    simp only [hpOk] at h
    simp only [getH]
    by_cases hb : b = d
    · subst hb
      rw [if_pos rfl]
      exact .inr h.1
    · rw [if_neg hb]
      exact hpOk_get h.2 b

theorem Weak.mk {fr' : Fr} {H' : Hp} {nx' : Nat} (hlo : lo ≤ nx') (h1 : frOk nx' fr fr') (h2 : hpOk nx' H H') : Weak lo n fr H nx fr' H' nx' := by
  rintro w0 M0 c0 a w ⟨hn, hd, ρ, U, hU, hS, hF, hT⟩
  have hrow : ∀ b e sz d es, getH H' b = some (.row e sz d es) → b < nx' ∧ (∃ d', getH H b = some (.row e sz d' es)) ∧ fitL nx' es := by
    intro b e sz d es he
    rcases hpOk_get h2 b with h0 | ⟨hb, hs, hf⟩
    · rw [h0] at he; cases he
    · rw [he] at hs hf
      refine ⟨hb, ?_, hf⟩
      cases hg : getH H b with
      | none => rw [hg] at hs; exact hs.elim
      | some k =>
        obtain ⟨e', sz', d', es'⟩ := k
        rw [hg] at hs
        simp only [sameRow] at hs
        obtain ⟨rfl, rfl, rfl⟩ := hs
        exact ⟨d', rfl⟩
  have hle : Cx.leN nx' ⟨ρ, getH H, U, w, M0⟩ ⟨ρ, getH H', fun b => U b ∧ b < nx', w, M0⟩ := by
    refine ⟨fun b hb hu => ⟨hu, hb⟩, fun b hm _ => ⟨rfl, ?_⟩, fun b hb hu e sz d es he => ?_⟩
    · rintro (h0 | ⟨x, k, o, z, hk, hρ⟩)
      · exact hm (.inl h0)
      · obtain ⟨e, sz, d, es⟩ := k
        obtain ⟨_, ⟨d', hg⟩, _⟩ := hrow x e sz d es hk
        exact hm (.inr ⟨x, _, o, z, hg, hρ⟩)
    · obtain ⟨_, ⟨d', hg⟩, _⟩ := hrow b e sz d es he
      exact ⟨e, d', es, hg, .inl ⟨rfl, rfl⟩⟩
  refine ⟨hn, hd, ρ, fun b => U b ∧ b < nx', fun b hb => hb.2, ⟨hS.below, hS.m0, fun b e sz d es he => ?_, fun b b' k k' blk o z o' z' hk hk' hρ hρ' => ?_⟩, fun t => ?_, ?_⟩
  · obtain ⟨hb, ⟨d', hg⟩, hf⟩ := hrow b e sz d es he
    obtain ⟨p1, p2, p3⟩ := hS.row b e sz d' es hg
    refine ⟨⟨p1, hb⟩, p2, ?_⟩
    rcases p3 with p3 | ⟨blk, o, z, q1, q2, q3, q4, q5⟩
    · exact .inl p3
    · exact .inr ⟨blk, o, z, q1, q2, q3, q4, VRow.keepN hle rfl hf q5⟩
  · obtain ⟨e, sz, d, es⟩ := k
    obtain ⟨e', sz', d', es'⟩ := k'
    obtain ⟨_, ⟨_, hg⟩, _⟩ := hrow _ _ _ _ _ hk
    obtain ⟨_, ⟨_, hg'⟩, _⟩ := hrow _ _ _ _ _ hk'
    exact hS.inj b b' _ _ blk o z o' z' hg hg' hρ hρ'
  · rcases frOk_get h1 t with h0 | ⟨he, hf⟩
    · rw [h0, VR]; trivial
    · rw [← he]
      rw [← he] at hf
      exact VR.keepN hle hf (hF t)
  · refine ⟨hT.1, ⟨fun b hb => ⟨hT.2.U b hb, by have := hT.1 b hb; omega⟩, hT.2.sz, fun b hm hl => ?_, fun b hb e sz d es he => ?_⟩⟩
    · obtain ⟨k1, k2⟩ := hT.2.blk b hm hl
      refine ⟨k1, ?_⟩
      rintro (h0 | ⟨x, k, o, z, hk, hρ⟩)
      · exact k2 (.inl h0)
      · obtain ⟨e, sz, d, es⟩ := k
        obtain ⟨_, ⟨d', hg⟩, _⟩ := hrow x e sz d es hk
        exact k2 (.inr ⟨x, _, o, z, hg, hρ⟩)
    · obtain ⟨_, ⟨d', hg⟩, _⟩ := hrow b e sz d es he
      exact hT.2.row b hb e sz d' es hg

/-- A loop: what holds at its head is a family of frames and rows. -/
theorem WL.loop {σ : Type} {x : LC} (F : σ → Fr) (G : σ → Hp) (nx0 : Nat) (I : σ → Prop) (μ : σ → Nat) (s0 : σ) (h0 : I s0) (hw : Weak lo n fr H nx (F s0) (G s0) nx0)
    (round : ∀ s, I s → WL P n lo x (F s) (G s) nx0 (thenK (fun fr' H' nx' => ∃ s', I s' ∧ μ s' < μ s ∧ Weak lo n fr' H' nx' (F s') (G s') nx0) Q)) : WL P n lo (.loop x) fr H nx Q := by
  intro code hc w0 M0 c0 a w hh
  have : ∃ c1, code = .loop c1 ∧ lowCode P n c1 = some x := by
    cases code <;> simp only [lowCode] at hc
    case loop c1 =>
      simp only [Option.map_eq_some_iff, LC.loop.injEq] at hc
      obtain ⟨x', h1, rfl⟩ := hc
      exact ⟨c1, rfl, h1⟩
    all_goals (exfalso; repeat' (split at hc)) <;> simp at hc
  obtain ⟨c1, rfl, h1⟩ := this
  intro b k cs
  have key : ∀ m, ∀ s, μ s = m → I s → ∀ a w, Holds w0 M0 c0 lo n (F s) (G s) nx0 a w →
      ∃ e a' w', LQ w0 M0 c0 lo n Q e a' w' ∧ Arrives P (lone (b.at a (.code c1 :: .inLoop c1 :: k)) cs w) b k cs e a' w' := by
    intro m
    induction m using Nat.strongRecOn with
    | _ m ih =>
      intro s hs hI a w hh
      obtain ⟨e, a1, w1, hq, harr⟩ := round s hI c1 h1 w0 M0 c0 a w hh b (.inLoop c1 :: k) cs
      obtain ⟨x', fr', H', nx', rfl, hQ, hh'⟩ := hq
      cases x' with
      | normal =>
        obtain ⟨s', hI', hlt, hwk⟩ := hQ
        obtain ⟨e2, a2, w2, hq2, harr2⟩ := ih (μ s') (by omega) s' rfl hI' a1 w1 (hwk _ _ _ _ _ hh')
        exact ⟨e2, a2, w2, hq2, .of_steps (Steps.trans harr (.one step_inLoop)) harr2⟩
      | exit id => exact ⟨_, a1, w1, ⟨.exit id, fr', H', nx', rfl, hQ, hh'⟩, .pass (x := .inLoop c1) rfl (fun _ _ => .inl (by simp [Ex.to])) harr⟩
      | ret => exact ⟨_, a1, w1, ⟨.ret, fr', H', nx', rfl, hQ, hh'⟩, .pass (x := .inLoop c1) rfl (fun _ _ => .inl (by simp [Ex.to])) harr⟩
  obtain ⟨e, a', w', hq, harr⟩ := key _ s0 rfl h0 a w (hw _ _ _ _ _ hh)
  exact ⟨e, a', w', hq, .of_steps (.one step_loop) harr⟩
end
end Go.Abs
