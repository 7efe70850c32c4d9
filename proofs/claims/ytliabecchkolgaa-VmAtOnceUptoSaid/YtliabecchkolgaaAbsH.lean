/- Each step of ours is a step of the model's. -/
import Derived.Test.YtliabecchkolgaaAbsG
import Derived.Laws.StructEq
namespace Go.Abs
open Go.RowKit

section
variable {P : Program} {o : Oper} {a : Act} {w0 : World} {c : Cx} {id : Nat} {fr : Fr} {H : Hp} {lop : LOp} {r : AV} {u : Option (Nat × Blk)}

theorem vr_pick {t : Bool} {x y : AV} {v w : Value} (hx : VR c x v) (hy : VR c y w) : VR c (pickA t x y) (if t then v else w) := by
  unfold pickA
  split
  · rw [VR] at hx hy ⊢
    subst hx hy
    cases t <;> rfl
  · cases t
    · simpa using hy
    · simpa using hx

theorem goes_pick {k x y : Operand} {k' x' y' : Opd} {t : Bool} (ho : o.op = .pick k x y) (h : Sim w0 c) (hF : FR c fr a.tmps) (h1 : lowOpd k = some k') (h2 : lowOpd x = some x') (h3 : lowOpd y = some y') (hk : ev fr k' = .sc (.bool t)) :
    Goes P o a w0 c id (pickA t (ev fr x') (ev fr y')) c.H := by
  have hkv := evR hF h1
  rw [hk, VR] at hkv
  refine goes_value (v := if t then a.eval x else a.eval y) h ?_ (vr_pick (evR hF h2) (evR hF h3))
  unfold execOp
  simp [ho, hkv, asBool]

theorem goes_nck {x : Operand} {x' : Opd} {r : AV} (ho : o.op = .nilCheck x) (h : Sim w0 c) (hF : FR c fr a.tmps) (h1 : lowOpd x = some x')
    (hr : ev fr x' = r) (hk : (∃ b l i off, r = .pt b l i off) ∨ (∃ sz d es i off, r = .ip sz d es i off) ∨ (∃ f p q, r = .fn (.func f) p q) ∨ (∃ t v, r = .ifc t v)) : Goes P o a w0 c id r c.H := by
  have hv := evR hF h1
  rw [hr] at hv
  refine goes_value (v := a.eval x) h ?_ hv
  unfold execOp
  rcases hk with ⟨b, l, i, off, rfl⟩ | ⟨sz, d, es, i, off, rfl⟩ | ⟨f, p, q, rfl⟩ | ⟨t, v, rfl⟩
  · rw [VR] at hv
    obtain ⟨_, _, ad, hv, _⟩ := hv
    simp [ho, hv]
  · rw [VR] at hv
    obtain ⟨_, _, blk, o', hv, _⟩ := hv
    simp [ho, hv]
  · rw [VR] at hv
    obtain ⟨ps, qs, hv, _⟩ := hv
    simp [ho, hv]
  · rw [VR] at hv
    obtain ⟨u, hv, _⟩ := hv
    simp [ho, hv]

theorem goes_bin {op : BinOp} {t yt : TypeId} {x y : Operand} {x' y' : Opd} {r : AV} (ho : o.op = .binOp op t x y yt) (h : Sim w0 c) (hF : FR c fr a.tmps) (h1 : lowOpd x = some x') (h2 : lowOpd y = some y')
    (hr : binA op (ev fr x') (ev fr y') = some r) : Goes P o a w0 c id r c.H := by
  have hx := evR hF h1
  have hy := evR hF h2
  have key : ∃ k i k' j, ev fr x' = .sc (.int k i) ∧ ev fr y' = .sc (.int k' j) := by
    generalize ev fr x' = A at hr
    generalize ev fr y' = B at hr
    unfold binA at hr
    split at hr <;> first | exact ⟨_, _, _, _, rfl, rfl⟩ | simp at hr
  obtain ⟨k, i, k', j, ex, ey⟩ := key
  rw [ex, VR] at hx
  rw [ey, VR] at hy
  rw [ex, ey] at hr
  cases op <;> simp only [binA, Option.ite_none_right_eq_some, Option.some.injEq, reduceCtorEq] at hr
  all_goals first | (obtain ⟨⟨rfl, h0⟩, rfl⟩ := hr) | (obtain ⟨rfl, rfl⟩ := hr) | (obtain ⟨h0, rfl⟩ := hr; have h0' : ¬ j < 0 := by omega)
  all_goals (refine goes_value h (v := _) ?_ (by rw [VR]))
  all_goals unfold execOp
  all_goals first
    | (simp [ho, hx, hy, eqGuard, binOp, Op.intArith, Op.intCmp, Op.intBits, Op.intDiv, Op.shift, *] <;> first | rfl | (congr 1))
    | (simp [ho, hx, hy, eqGuard, binOp, Op.intArith, Op.intCmp, Op.intBits, Op.intDiv, Op.shift, *]; done)

theorem goes_eqb {neg : Bool} {op : BinOp} {t yt : TypeId} {x y : Operand} {x' y' : Opd} {p q : Bool} (ho : o.op = .binOp op t x y yt) (ht : P.underlying t = some .bool) (hop : op = if neg then .neq else .eql) (h : Sim w0 c) (hF : FR c fr a.tmps) (h1 : lowOpd x = some x') (h2 : lowOpd y = some y')
    (ex : ev fr x' = .sc (.bool p)) (ey : ev fr y' = .sc (.bool q)) : Goes P o a w0 c id (.sc (.bool (if neg then p != q else p == q))) c.H := by
  have hx := evR hF h1
  have hy := evR hF h2
  rw [ex, VR] at hx
  rw [ey, VR] at hy
  subst hop
  refine goes_value h (v := _) ?_ (by rw [VR])
  have he : (Op.equal t (.bool p) (.bool q)).run P c.w = .ok (p == q) c.w := run_equalIn_bool' c.w 9999 t p q ht
  have e1 : (binOp .eql t (.bool p) (.bool q)) = (do pure (.bool (← Op.equal t (.bool p) (.bool q)))) := rfl
  have e2 : (binOp .neq t (.bool p) (.bool q)) = (do pure (.bool (!(← Op.equal t (.bool p) (.bool q))))) := rfl
  unfold execOp
  cases neg
  · simp only [ho, hx, hy, eqGuard_at_bool, e1, Bool.false_eq_true, if_false, Sem.run_bind, Sem.run_pure, Result.andThen_ok, he]
  · simp only [ho, hx, hy, eqGuard_at_bool, e2, if_true, Sem.run_bind, Sem.run_pure, Result.andThen_ok, he]
    rfl

theorem goes_eqstr {neg : Bool} {op : BinOp} {t yt : TypeId} {x y : Operand} {x' y' : Opd} {p q : ByteArray} (ho : o.op = .binOp op t x y yt) (hop : op = if neg then .neq else .eql) (h : Sim w0 c) (hF : FR c fr a.tmps) (h1 : lowOpd x = some x') (h2 : lowOpd y = some y')
    (ex : ev fr x' = .sc (.string p)) (ey : ev fr y' = .sc (.string q)) : Goes P o a w0 c id (.sc (.bool (if neg then p != q else p == q))) c.H := by
  have hx := evR hF h1
  have hy := evR hF h2
  rw [ex, VR] at hx
  rw [ey, VR] at hy
  subst hop
  refine goes_value h (v := _) ?_ (by rw [VR])
  unfold execOp
  cases neg <;> simp [ho, hx, hy, eqGuard, binOp, Op.stringOp, beq_toListBytes, bne]

theorem goes_un {op : UnOp} {t : TypeId} {x : Operand} {x' : Opd} {r : AV} (ho : o.op = .unOp op t x) (h : Sim w0 c) (hF : FR c fr a.tmps) (h1 : lowOpd x = some x') (hr : unA op (ev fr x') = some r) : Goes P o a w0 c id r c.H := by
  have hx := evR hF h1
  generalize ev fr x' = A at hr hx
  unfold unA at hr
  split at hr
  · simp only [Option.some.injEq] at hr
    subst hr
    rw [VR] at hx
    refine goes_value h (v := _) ?_ (by rw [VR])
    unfold execOp
    simp [ho, hx, Op.unary]
  · simp only [Option.some.injEq] at hr
    subst hr
    rw [VR] at hx
    refine goes_value h (v := _) ?_ (by rw [VR])
    unfold execOp
    simp [ho, hx, Op.unary, Op.intArith]
  · simp at hr

theorem goes_cvt {s t : TypeId} {x : Operand} {x' : Opd} {k k0 j : IntKind} {n : Int} (ho : o.op = .convert s t x) (hs : P.underlying s = some (.int j)) (ht : P.underlying t = some (.int k)) (h : Sim w0 c) (hF : FR c fr a.tmps) (h1 : lowOpd x = some x')
    (ex : ev fr x' = .sc (.int k0 n)) : Goes P o a w0 c id (.sc (.int k (k.wrap n))) c.H := by
  have hx := evR hF h1
  rw [ex, VR] at hx
  refine goes_value h (v := .int k (k.wrap n)) ?_ (by rw [VR])
  unfold execOp
  simp [ho, hx, convert, run_underlying hs, run_underlying ht, Conv.intToInt]

theorem goes_fa {s : TypeId} {x : Operand} {x' : Opd} {f : Nat} {fs : Array Field} {fl : Field} {k : Nat} {r : AV} (ho : o.op = .fieldAddr s x f) (hs : P.underlying s = some (.struct fs)) (hf : fs[f]? = some fl) (hk : szT P fl.type = some (k + 1)) (h : Sim w0 c) (hH : c.H = getH H) (hF : FR c fr a.tmps) (h1 : lowOpd x = some x')
    (hr : (match ev fr x' with
      | .ip sz d es i o => if o + fl.offset < sz then some (AV.ip sz d es i (o + fl.offset), (none : Option (Nat × Blk))) else none
      | .pt b len i o => match getH H b with
        | some (.row _ sz _ es) => if es.length = len ∧ o + fl.offset < sz then some (.pt b len i (o + fl.offset), none) else none
        | none => none
      | _ => none) = some (r, u)) : Goes P o a w0 c id r c.H ∧ u = none := by
  have hx := evR hF h1
  generalize ev fr x' = A at hr hx
  have hrun : ∀ blk off, a.eval x = .pointer (some ⟨blk, off, none⟩) → (execOp a.eval o).run P c.w = .ok (.value (.pointer (some ⟨blk, off + fl.offset, none⟩))) c.w := by
    intro blk off hv
    unfold execOp
    simp [ho, hv, Instr.fieldAt, Instr.sureAddr, run_underlying hs, hf, fieldPlace, run_sizeOf hk, Addr.add_lit]
  cases A <;> simp only [reduceCtorEq] at hr
  · simp only [Option.ite_none_right_eq_some, Option.some.injEq, Prod.mk.injEq] at hr
    obtain ⟨hlt, rfl, rfl⟩ := hr
    rw [VR] at hx
    obtain ⟨hi, ho', blk, o', hv, hm, hrow⟩ := hx
    refine ⟨goes_value h (hrun _ _ hv) ?_, rfl⟩
    rw [VR]
    exact ⟨hi, hlt, blk, o', by rw [Nat.add_assoc], hm, hrow⟩
  · rename_i b len i off
    cases hb : getH H b with
    | none => rw [hb] at hr; simp at hr
    | some kk =>
      obtain ⟨e', sz', d, es⟩ := kk
      rw [hb] at hr
      simp only [Option.ite_none_right_eq_some, Option.some.injEq, Prod.mk.injEq] at hr
      obtain ⟨⟨hlen, hlt⟩, rfl, rfl⟩ := hr
      rw [VR] at hx
      obtain ⟨hU, hi, ad, hv, hr⟩ := hx
      rw [← hH] at hb
      obtain ⟨hle, hr⟩ := hr _ _ _ _ hb
      obtain ⟨_, blk, o', z, hρ, rfl⟩ := hr hlen
      refine ⟨goes_value h (hrun _ _ hv) ?_, rfl⟩
      rw [VR]
      refine ⟨hU, hi, _, rfl, fun e2 sz2 d2 es2 he2 => ?_⟩
      rw [hb] at he2
      simp only [Option.some.injEq, Blk.row.injEq] at he2
      obtain ⟨rfl, rfl, rfl, rfl⟩ := he2
      exact ⟨hle, fun _ => ⟨hlt, blk, o', z, hρ, by rw [Nat.add_assoc]⟩⟩

theorem goes_ia {t : TypeId} {x i : Operand} {x' i' : Opd} {k : Nat} {n : Option Nat} {r : AV} (ho : o.op = .indexAddr t x i) (ht : (n = none ∧ ∃ e, P.underlying t = some (.slice e) ∧ szT P e = some k) ∨ ∃ m e, n = some m ∧ P.underlying t = some (.array m e) ∧ szT P e = some k)
    (h : Sim w0 c) (hH : c.H = getH H) (hF : FR c fr a.tmps) (h1 : lowOpd x = some x') (h2 : lowOpd i = some i') (hr : iaA H k n (ev fr x') (ev fr i') = some r) : Goes P o a w0 c id r c.H := by
  have hx := evR hF h1
  have hi := evR hF h2
  generalize ev fr x' = A at hr hx
  generalize ev fr i' = B at hr hi
  unfold iaA at hr
  split at hr
  · rename_i kk j
    rw [VR] at hi
    rcases ht with ⟨rfl, e, ht, hk⟩ | ⟨m, e, rfl, ht, hk⟩
    · have hrun : ∀ ad len cap, a.eval x = .slice (some ad) len cap → 0 ≤ j → j < len → (execOp a.eval o).run P c.w = .ok (.value (.pointer (some (ad.add (j.toNat * k))))) c.w := by
        intro ad len cap hv h0 hl
        unfold execOp
        simp [ho, hv, hi, Instr.indexAt, asIntOf, run_underlying ht, h0, hl, run_sizeOf hk]
      cases A <;> simp only [reduceCtorEq] at hr
      · simp only [Option.ite_none_right_eq_some, Option.some.injEq] at hr
        obtain ⟨⟨rfl, h0, hl⟩, rfl⟩ := hr
        rename_i sz d es
        rw [VR] at hx
        obtain ⟨ad, cap, hv, _, hor⟩ := hx
        rcases hor with he | ⟨blk, off, rfl, hz, hm, hrow⟩
        · subst he; simp at hl; omega
        · refine goes_value h (hrun _ _ _ hv h0 hl) ?_
          rw [VR, Addr.add_lit]
          exact ⟨by omega, hz, blk, off, by simp, hm, hrow⟩
      · rename_i b len
        cases hb : getH H b with
        | none => rw [hb] at hr; simp at hr
        | some q =>
          obtain ⟨e', sz', d, es⟩ := q
          rw [hb] at hr
          simp only [Option.ite_none_right_eq_some, Option.some.injEq] at hr
          obtain ⟨⟨hlen, rfl, h0, hl⟩, rfl⟩ := hr
          rw [VR] at hx
          obtain ⟨hU, ad, cap, hv, hr⟩ := hx
          rw [← hH] at hb
          obtain ⟨hle, hr⟩ := hr _ _ _ _ hb
          obtain ⟨_, hz, hrow⟩ := h.row b _ _ _ _ hb
          rcases hr hlen with ⟨hρ, _⟩ | ⟨blk, off, z, hρ, rfl, _⟩
          · rcases hrow with ⟨_, he⟩ | ⟨_, _, _, hρ', _⟩
            · subst he; simp at hlen; omega
            · rw [hρ] at hρ'; cases hρ'
          · refine goes_value h (hrun _ _ _ hv h0 hl) ?_
            rw [VR, Addr.add_lit]
            refine ⟨hU, by omega, _, rfl, fun e2 sz2 d2 es2 he2 => ?_⟩
            rw [hb] at he2
            simp only [Option.some.injEq, Blk.row.injEq] at he2
            obtain ⟨rfl, rfl, rfl, rfl⟩ := he2
            exact ⟨hle, fun _ => ⟨hz, blk, off, z, hρ, by simp⟩⟩
      · rename_i b len lo m
        cases hb : getH H b with
        | none => rw [hb] at hr; simp at hr
        | some q =>
          obtain ⟨e', sz', d, es⟩ := q
          rw [hb] at hr
          simp only [Option.ite_none_right_eq_some, Option.some.injEq] at hr
          obtain ⟨⟨hlen, rfl, h0, hl⟩, rfl⟩ := hr
          rw [VR] at hx
          obtain ⟨hU, hlm, ad, cap, hv, _, hr⟩ := hx
          rw [← hH] at hb
          obtain ⟨hle, hr⟩ := hr _ _ _ _ hb
          obtain ⟨_, hz, hrow⟩ := h.row b _ _ _ _ hb
          rcases hr hlen with h00 | ⟨blk, off, z, hρ, rfl⟩
          · omega
          · refine goes_value h (hrun _ _ _ hv h0 hl) ?_
            rw [VR, Addr.add_lit]
            refine ⟨hU, by omega, _, rfl, fun e2 sz2 d2 es2 he2 => ?_⟩
            rw [hb] at he2
            simp only [Option.some.injEq, Blk.row.injEq] at he2
            obtain ⟨rfl, rfl, rfl, rfl⟩ := he2
            exact ⟨hle, fun _ => ⟨hz, blk, off, z, hρ, by simp only [Addr.mk.injEq, Nat.add_zero, and_true, true_and]; rw [Nat.add_mul]; omega⟩⟩
    · have hrun : ∀ ad, a.eval x = .pointer (some ad) → 0 ≤ j → j < m → (execOp a.eval o).run P c.w = .ok (.value (.pointer (some (ad.add (j.toNat * k))))) c.w := by
        intro ad hv h0 hl
        unfold execOp
        simp [ho, hv, hi, Instr.indexAt, Instr.sureAddr, asIntOf, run_underlying ht, h0, hl, run_sizeOf hk]
      have hjk : ∀ h0 : 0 ≤ j, j < m → j.toNat * k + k ≤ m * k := fun h0 hl => by
        rw [← Nat.succ_mul]; exact Nat.mul_le_mul_right _ (by omega)
      have hkpos : ∀ {sz off : Nat}, off < sz → off + m * k ≤ sz → 0 ≤ j → j < m → off + j.toNat * k < sz := by
        intro sz off hlt hle h0 hl
        have := hjk h0 hl
        rcases Nat.eq_zero_or_pos k with hk0 | hk0
        · subst hk0; simpa using hlt
        · omega
      cases A <;> simp only [reduceCtorEq] at hr
      · simp only [Option.ite_none_right_eq_some, Option.some.injEq] at hr
        obtain ⟨⟨hle, h0, hl⟩, rfl⟩ := hr
        rw [VR] at hx
        obtain ⟨hi', ho', blk, o', hv, hm, hrow⟩ := hx
        refine goes_value h (hrun _ hv h0 hl) ?_
        rw [VR, Addr.add_lit]
        exact ⟨hi', hkpos ho' hle h0 hl, blk, o', by rw [Nat.add_assoc], hm, hrow⟩
      · rename_i b len i2 off
        cases hb : getH H b with
        | none => rw [hb] at hr; simp at hr
        | some q =>
          obtain ⟨e', sz', d, es⟩ := q
          rw [hb] at hr
          simp only [Option.ite_none_right_eq_some, Option.some.injEq] at hr
          obtain ⟨⟨hlen, hle', h0, hl⟩, rfl⟩ := hr
          rw [VR] at hx
          obtain ⟨hU, hi2, ad, hv, hr⟩ := hx
          rw [← hH] at hb
          obtain ⟨hle, hr⟩ := hr _ _ _ _ hb
          obtain ⟨ho', blk, o', z, hρ, rfl⟩ := hr hlen
          refine goes_value h (hrun _ hv h0 hl) ?_
          rw [VR, Addr.add_lit]
          refine ⟨hU, hi2, _, rfl, fun e2 sz2 d2 es2 he2 => ?_⟩
          rw [hb] at he2
          simp only [Option.some.injEq, Blk.row.injEq] at he2
          obtain ⟨rfl, rfl, rfl, rfl⟩ := he2
          exact ⟨hle, fun _ => ⟨hkpos ho' hle' h0 hl, blk, o', z, hρ, by rw [Nat.add_assoc]⟩⟩
  · simp at hr

theorem run_part {t : TypeId} {ag : Bool} {k : Nat} (hg : aggT P t = some ag) (hk : szT P t = some k) (hk1 : ag = false → k = 1) {cs : List AV} {vs : Array Value} (hv : VRs c cs vs.toList) (off : Nat) (hle : off + k ≤ cs.length) (w : World) :
    ∃ v, (part t vs off).run P w = .ok v w ∧ VR c (if ag then .agg ((cs.drop off).take k) else cs.getD off .any) v := by
  have hl := hv.length
  simp at hl
  unfold part
  simp only [Sem.run_bind, run_isAgg hg, Result.andThen_ok]
  cases ag with
  | true =>
    refine ⟨.agg (vs.extract off (off + k)), ?_, ?_⟩
    · simp [run_sizeOf hk]
    · rw [if_pos rfl, VR]
      refine ⟨_, rfl, ?_⟩
      have := (hv.drop off).take k
      simpa [Array.toList_extract, List.extract_eq_take_drop] using this
  | false =>
    have := hk1 rfl
    subst this
    obtain ⟨v, h1, h2⟩ := hv.get off (by omega)
    refine ⟨v, ?_, by simpa using h2⟩
    have : vs[off]? = some v := by simpa using h1
    simp [this]

theorem goes_len {x : Operand} {x' : Opd} {t e : TypeId} {n : Nat} (ho : o.op = .call { callee := .builtin .len, args := #[x], argTypes := #[t] }) (ht : P.underlying t = some (.slice e)) (h : Sim w0 c) (hF : FR c fr a.tmps) (h1 : lowOpd x = some x')
    (hr : lenA H (ev fr x') = some n) : Goes P o a w0 c id (.sc (.int .i64 n)) c.H := by
  have hx := evR hF h1
  generalize ev fr x' = A at hr hx
  have hrun : ∀ p q, a.eval x = .slice p n q → (execOp a.eval o).run P c.w = .ok (.value (.int .i64 n)) c.w := by
    intro p q hv
    unfold execOp
    simp [ho, resolve, invoke, builtin, Builtin.len_, hv, run_underlying ht, goInt]
  cases A <;> try simp only [lenA, reduceCtorEq] at hr
  · rename_i v0
    by_cases hn : v0 = .slice none 0 0
    · subst hn
      simp only [Option.some.injEq] at hr
      subst hr
      rw [VR] at hx
      exact goes_value h (hrun _ _ hx) (by rw [VR])
    · exfalso
      split at hr
      all_goals first | (rename_i heq; cases heq; done) | (rename_i heq; cases heq; exact hn rfl) | (cases hr)
  · simp only [Option.some.injEq] at hr
    subst hr
    rw [VR] at hx
    obtain ⟨_, _, hv, _⟩ := hx
    exact goes_value h (hrun _ _ hv) (by rw [VR])
  · rename_i b len
    cases hb : getH H b with
    | none => rw [hb] at hr; simp at hr
    | some q =>
      obtain ⟨e', sz', d, es⟩ := q
      rw [hb] at hr
      simp only [Option.ite_none_right_eq_some, Option.some.injEq] at hr
      obtain ⟨hlen, rfl⟩ := hr
      rw [VR] at hx
      obtain ⟨_, _, _, hv, _⟩ := hx
      exact goes_value h (hrun _ _ hv) (by rw [VR])
  · simp only [Option.some.injEq] at hr
    subst hr
    rw [VR] at hx
    obtain ⟨_, hv⟩ := hx
    exact goes_value h (hrun _ _ hv) (by rw [VR])
  · simp only [Option.some.injEq] at hr
    subst hr
    rw [VR] at hx
    obtain ⟨_, _, _, _, hv, _⟩ := hx
    exact goes_value h (hrun _ _ hv) (by rw [VR])

theorem goes_lens {x : Operand} {x' : Opd} {t : TypeId} {s : ByteArray} (ho : o.op = .call { callee := .builtin .len, args := #[x], argTypes := #[t] }) (ht : P.underlying t = some .string) (h : Sim w0 c) (hF : FR c fr a.tmps) (h1 : lowOpd x = some x')
    (ex : ev fr x' = .sc (.string s)) : Goes P o a w0 c id (.sc (.int .i64 s.size)) c.H := by
  have hx := evR hF h1
  rw [ex, VR] at hx
  refine goes_value h (v := .int .i64 s.size) ?_ (by rw [VR])
  unfold execOp
  simp [ho, resolve, invoke, builtin, Builtin.len_, hx, run_underlying ht, goInt]

theorem goes_ixs {t : TypeId} {x i : Operand} {x' i' : Opd} {s : ByteArray} {kk : IntKind} {j : Int} (ho : o.op = .index t x i) (ht : P.underlying t = some .string) (h : Sim w0 c) (hF : FR c fr a.tmps) (h1 : lowOpd x = some x') (h2 : lowOpd i = some i')
    (ex : ev fr x' = .sc (.string s)) (ei : ev fr i' = .sc (.int kk j)) (h0 : 0 ≤ j) (hj : j < s.size) : Goes P o a w0 c id (.sc (.int .u8 (s.data.toList.getD j.toNat 0).toNat)) c.H := by
  have hx := evR hF h1
  have hi := evR hF h2
  rw [ex, VR] at hx
  rw [ei, VR] at hi
  refine goes_value h (v := .int .u8 (s.data.toList.getD j.toNat 0).toNat) ?_ (by rw [VR])
  have hlt : j.toNat < s.size := by omega
  have hlt' : j.toNat < s.data.size := hlt
  have hg : s[j.toNat]? = some (s.data.toList.getD j.toNat 0) := by
    rw [getElem?_pos s j.toNat hlt]
    have e : s.data.toList.getD j.toNat 0 = s.data[j.toNat] := by
      rw [List.getD, Array.getElem?_toList, Array.getElem?_eq_getElem hlt']; rfl
    rw [e]
    rfl
  unfold execOp
  simp [ho, hx, hi, Instr.index, run_underlying ht, asIntOf, h0, hg]

theorem run_eqnil_ptr (w : World) (d : Nat) {t e : TypeId} (ht : P.underlying t = some (.pointer e)) (p : Option Addr) : (Op.equalIn (d + 1) t (.pointer p) (.pointer none)).run P w = .ok p.isNone w := by
  cases p <;> simp [Op.equalIn, run_underlying ht]
theorem run_eqnil_slice (w : World) (d : Nat) {t e : TypeId} (ht : P.underlying t = some (.slice e)) (p : Option Addr) (n m : Nat) : (Op.equalIn (d + 1) t (.slice p n m) (.slice none 0 0)).run P w = .ok p.isNone w := by
  cases p <;> simp [Op.equalIn, run_underlying ht]

theorem goes_nilp {neg : Bool} {op : BinOp} {t yt e : TypeId} {x y : Operand} {x' : Opd} {r : AV} (ho : o.op = .binOp op t x y yt) (ht : P.underlying t = some (.pointer e)) (hop : op = if neg then .neq else .eql) (h : Sim w0 c) (hF : FR c fr a.tmps) (h1 : lowOpd x = some x')
    (hy : y = .const (.pointer none)) (hr : (match ev fr x' with | .pt _ _ _ _ => some (AV.sc (.bool neg), (none : Option (Nat × Blk))) | .ip _ _ _ _ _ => some (.sc (.bool neg), none) | .sc (.pointer none) => some (.sc (.bool !neg), none) | _ => none) = some (r, u)) : Goes P o a w0 c id r c.H ∧ u = none := by
  have hx := evR hF h1
  subst hop hy
  have key : ∀ (p : Option Addr), a.eval x = .pointer p → (execOp a.eval o).run P c.w = .ok (.value (.bool (if neg then !p.isNone else p.isNone))) c.w := by
    intro p hp
    have he : (Op.equal t (.pointer p) (.pointer none)).run P c.w = .ok p.isNone c.w := run_eqnil_ptr c.w 9999 ht p
    have e1 : (binOp .eql t (.pointer p) (.pointer none)) = (do pure (.bool (← Op.equal t (.pointer p) (.pointer none)))) := rfl
    have e2 : (binOp .neq t (.pointer p) (.pointer none)) = (do pure (.bool (!(← Op.equal t (.pointer p) (.pointer none))))) := rfl
    have ey : a.eval (.const (.pointer none)) = .pointer none := rfl
    unfold execOp
    cases neg
    · simp only [ho, hp, ey, eqGuard_at_pointer, e1, Bool.false_eq_true, if_false, Sem.run_bind, Sem.run_pure, Result.andThen_ok, he]
    · simp only [ho, hp, ey, eqGuard_at_pointer, e2, if_true, Sem.run_bind, Sem.run_pure, Result.andThen_ok, he]
  generalize ev fr x' = A at hr hx
  split at hr <;> simp only [Option.some.injEq, Prod.mk.injEq, reduceCtorEq] at hr
  · obtain ⟨rfl, rfl⟩ := hr
    rw [VR] at hx
    obtain ⟨_, _, ad, hv, _⟩ := hx
    exact ⟨goes_value h (key _ hv) (by rw [VR]; cases neg <;> rfl), rfl⟩
  · obtain ⟨rfl, rfl⟩ := hr
    rw [VR] at hx
    obtain ⟨_, _, blk, o', hv, _⟩ := hx
    exact ⟨goes_value h (key _ hv) (by rw [VR]; cases neg <;> rfl), rfl⟩
  · obtain ⟨rfl, rfl⟩ := hr
    rw [VR] at hx
    exact ⟨goes_value h (key _ hx) (by rw [VR]; cases neg <;> rfl), rfl⟩

theorem goes_nils {neg : Bool} {op : BinOp} {t yt e : TypeId} {x y : Operand} {x' : Opd} {q : Option Bool} (ho : o.op = .binOp op t x y yt) (ht : P.underlying t = some (.slice e)) (hop : op = if neg then .neq else .eql) (h : Sim w0 c) (hH : c.H = getH H) (hF : FR c fr a.tmps) (h1 : lowOpd x = some x')
    (hy : y = .const (.slice none 0 0)) (hr : nilA H (ev fr x') = some q) : Goes P o a w0 c id (tellB neg q) c.H := by
  have hx := evR hF h1
  subst hop hy
  have key : ∀ (p : Option Addr) (n m : Nat), a.eval x = .slice p n m → (execOp a.eval o).run P c.w = .ok (.value (.bool (if neg then !p.isNone else p.isNone))) c.w := by
    intro p n m hp
    have he : (Op.equal t (.slice p n m) (.slice none 0 0)).run P c.w = .ok p.isNone c.w := run_eqnil_slice c.w 9999 ht p n m
    have e1 : (binOp .eql t (.slice p n m) (.slice none 0 0)) = (do pure (.bool (← Op.equal t (.slice p n m) (.slice none 0 0)))) := rfl
    have e2 : (binOp .neq t (.slice p n m) (.slice none 0 0)) = (do pure (.bool (!(← Op.equal t (.slice p n m) (.slice none 0 0))))) := rfl
    have ey : a.eval (.const (.slice none 0 0)) = .slice none 0 0 := rfl
    unfold execOp
    cases neg
    · simp only [ho, hp, ey, eqGuard_at_slice, e1, Bool.false_eq_true, if_false, Sem.run_bind, Sem.run_pure, Result.andThen_ok, he]
    · simp only [ho, hp, ey, eqGuard_at_slice, e2, if_true, Sem.run_bind, Sem.run_pure, Result.andThen_ok, he]
  have some' : ∀ (p : Option Addr) (n m : Nat), a.eval x = .slice p n m → p.isNone = false → Goes P o a w0 c id (tellB neg (some false)) c.H := by
    intro p n m hp hn
    refine goes_value h (key p n m hp) ?_
    rw [hn]; unfold tellB; rw [VR]
  have any' : ∀ (p : Option Addr) (n m : Nat), a.eval x = .slice p n m → Goes P o a w0 c id (tellB neg none) c.H := by
    intro p n m hp
    refine goes_value h (key p n m hp) ?_
    unfold tellB; rw [VR]
    exact ⟨_, rfl⟩
  generalize ev fr x' = A at hr hx
  unfold nilA at hr
  split at hr
  · split at hr
    · simp only [Option.some.injEq] at hr; subst hr
      rw [VR] at hx
      obtain ⟨p, cap, hv, _⟩ := hx
      exact any' _ _ _ hv
    · simp only [Option.some.injEq] at hr; subst hr
      rename_i hne
      rw [VR] at hx
      obtain ⟨p, cap, hv, _, hor⟩ := hx
      rcases hor with h0 | ⟨blk, o', rfl, _⟩
      · exact absurd h0 hne
      · exact some' _ _ _ hv rfl
  · rename_i b len
    split at hr
    · rename_i e' sz d es hb
      split at hr
      · rename_i hl
        simp only [Option.some.injEq] at hr; subst hr
        rw [VR] at hx
        obtain ⟨hU, p, cap, hv, hrr⟩ := hx
        rw [← hH] at hb
        obtain ⟨_, h2⟩ := hrr _ _ _ _ hb
        rcases h2 hl.1 with ⟨hρ, _, _⟩ | ⟨blk, o', z, _, rfl, _⟩
        · obtain ⟨_, _, hrow⟩ := h.row b _ _ _ _ hb
          rcases hrow with ⟨_, h0⟩ | ⟨_, _, _, hρ', _⟩
          · subst h0; have := hl.1; simp at this; omega
          · rw [hρ] at hρ'; cases hρ'
        · exact some' _ _ _ hv rfl
      · simp only [Option.some.injEq] at hr; subst hr
        rw [VR] at hx
        obtain ⟨hU, p, cap, hv, hrr⟩ := hx
        exact any' _ _ _ hv
    · simp only [Option.some.injEq] at hr; subst hr
      rw [VR] at hx
      obtain ⟨hU, p, cap, hv, hrr⟩ := hx
      exact any' _ _ _ hv
  · simp only [Option.some.injEq] at hr; subst hr
    rw [VR] at hx
    refine goes_value h (key _ _ _ hx) ?_
    unfold tellB; rw [VR]; cases neg <;> rfl
  · simp only [Option.some.injEq] at hr; subst hr
    rw [VR] at hx
    obtain ⟨p, hv⟩ := hx
    exact any' _ _ _ hv
  · simp only [Option.some.injEq] at hr; subst hr
    rw [VR] at hx
    obtain ⟨_, _, p, cap, hv, _⟩ := hx
    exact any' _ _ _ hv
  · simp at hr
end
end Go.Abs
