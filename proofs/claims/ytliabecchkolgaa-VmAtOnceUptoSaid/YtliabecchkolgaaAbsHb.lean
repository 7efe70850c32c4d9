/- Structs and arrays that are compared, cell by cell. -/
import Derived.Test.YtliabecchkolgaaAbsHa
namespace Go.Abs
open Go.RowKit

def leafV : LK → Value → Value → Option Bool
  | .i, .int k a, .int k' b => if k = k' then some (decide (a = b)) else none
  | .b, .bool a, .bool b => some (a == b)
  | .s, .string a, .string b => some (a == b)
  | _, _, _ => none
def eqV : List LK → List Value → List Value → Option Bool
  | [], [], [] => some true
  | l :: ls, a :: as, b :: bs => match leafV l a b, eqV ls as bs with
    | some p, some q => some (p && q)
    | _, _ => none
  | _, _, _ => none

section
variable {P : Program} {o : Oper} {a : Act} {w0 : World} {c : Cx} {id : Nat} {fr : Fr} {H : Hp} {lop : LOp} {r : AV} {u : Option (Nat × Blk)}

theorem leafV_one {l : LK} {u v : Value} {r : Bool} (h : leafV l u v = some r) : u.cells = #[u] ∧ v.cells = #[v] := by
  unfold leafV at h
  split at h <;> first | exact ⟨rfl, rfl⟩ | simp at h
theorem eqV_len : ∀ {l : List LK} {A B : List Value} {r : Bool}, eqV l A B = some r → A.length = l.length ∧ B.length = l.length
  | [], [], [], _, _ => ⟨rfl, rfl⟩
  | [], _ :: _, _, _, h => by simp [eqV] at h
  | [], [], _ :: _, _, h => by simp [eqV] at h
  | _ :: _, [], _, _, h => by simp [eqV] at h
  | _ :: _, _ :: _, [], _, h => by simp [eqV] at h
  | l :: ls, x :: A, y :: B, r, h => by
    simp only [eqV] at h
    split at h
    · rename_i p q h1 h2
      obtain ⟨e1, e2⟩ := eqV_len h2
      simp [e1, e2]
    · simp at h
theorem eqV_append : ∀ {l q : List LK} {A B : List Value} {r : Bool}, eqV (l ++ q) A B = some r → ∃ r1 r2, eqV l (A.take l.length) (B.take l.length) = some r1 ∧ eqV q (A.drop l.length) (B.drop l.length) = some r2 ∧ r = (r1 && r2)
  | [], q, A, B, r, h => ⟨true, r, by simp [eqV], by simpa using h, by simp⟩
  | x :: l, q, [], B, r, h => by simp [eqV] at h
  | x :: l, q, _ :: _, [], r, h => by simp [eqV] at h
  | x :: l, q, a :: A, b :: B, r, h => by
    simp only [List.cons_append, eqV] at h
    split at h
    · rename_i p s h1 h2
      simp only [Option.some.injEq] at h
      obtain ⟨r1, r2, g1, g2, rfl⟩ := eqV_append h2
      refine ⟨p && r1, r2, ?_, by simpa using g2, by rw [← h, Bool.and_assoc]⟩
      simp only [List.length_cons, List.take_succ_cons, eqV, h1, g1]
    · simp at h

def Sh (P : Program) (t : TypeId) (x : Value) : Prop := ∀ ag, aggT P t = some ag → if ag then ∃ vs, x = .agg vs else x.cells = #[x]

/-- A part that is compared. -/
theorem part_eq {t : TypeId} {l : List LK} {s : Nat} {ag : Bool} (hg : aggT P t = some ag) (hk : szT P t = some s) (hl : l.length = s) (hag : ag = false → s = 1) {xs ys : Array Value} {off : Nat} {r : Bool}
    (h : eqV l ((xs.toList.drop off).take s) ((ys.toList.drop off).take s) = some r) (w : World) :
    ∃ x y, (part t xs off).run P w = .ok x w ∧ (part t ys off).run P w = .ok y w ∧ Sh P t x ∧ Sh P t y ∧ eqV l x.cells.toList y.cells.toList = some r := by
  unfold part
  simp only [Sem.run_bind, run_isAgg hg, Result.andThen_ok]
  cases ag with
  | true =>
    refine ⟨.agg (xs.extract off (off + s)), .agg (ys.extract off (off + s)), by simp [run_sizeOf hk], by simp [run_sizeOf hk], fun ag h => ?_, fun ag h => ?_, ?_⟩
    · rw [hg] at h; cases h; exact ⟨_, rfl⟩
    · rw [hg] at h; cases h; exact ⟨_, rfl⟩
    · simpa [Value.cells, Array.toList_extract, List.extract_eq_take_drop] using h
  | false =>
    have hs := hag rfl
    subst hs
    match l, hl with
    | [k], _ =>
      obtain ⟨e1, e2⟩ := eqV_len h
      have g : ∀ (zs : Array Value), ((zs.toList.drop off).take 1).length = 1 → ∃ z, zs[off]? = some z ∧ (zs.toList.drop off).take 1 = [z] := by
        intro zs hz
        simp only [List.length_take, List.length_drop, Array.length_toList] at hz
        refine ⟨zs[off]'(by omega), Array.getElem?_eq_getElem (by omega), ?_⟩
        rw [List.drop_eq_getElem_cons (by simp; omega)]
        simp
      obtain ⟨x, x1, x2⟩ := g xs e1
      obtain ⟨y, y1, y2⟩ := g ys e2
      rw [x2, y2] at h
      have hlf : ∃ p, leafV k x y = some p := by
        simp only [eqV] at h
        split at h
        · rename_i p q h1 h2; exact ⟨p, h1⟩
        · simp at h
      obtain ⟨p, hp⟩ := hlf
      obtain ⟨c1, c2⟩ := leafV_one hp
      refine ⟨x, y, by simp [x1], by simp [y1], fun ag h => ?_, fun ag h => ?_, ?_⟩
      · rw [hg] at h; cases h; exact c1
      · rw [hg] at h; cases h; exact c2
      · rw [c1, c2]; exact h

def EqOk (P : Program) (D : Nat) (f : TypeId → Option (List LK)) : Prop := ∀ t l, f t = some l → (∃ ag, aggT P t = some ag ∧ (ag = false → l.length = 1)) ∧
  ∀ (x y : Value) (r : Bool), Sh P t x → Sh P t y → eqV l x.cells.toList y.cells.toList = some r → ∀ w, (Op.equalIn D t x y).run P w = .ok r w

theorem eqFs_spec {D : Nat} {f : TypeId → Option (List LK)} (hf : EqOk P D f) {xs ys : Array Value} : ∀ {fs : List Field} {off : Nat} {l : List LK} {r : Bool}, eqFs P f fs off = some l → eqV l (xs.toList.drop off) (ys.toList.drop off) = some r →
    ∀ w, (Op.eqFields D xs ys fs).run P w = .ok r w
  | [], off, l, r, h, he, w => by
    simp only [eqFs, Option.some.injEq] at h
    subst h
    obtain ⟨e1, e2⟩ := eqV_len he
    rw [List.eq_nil_of_length_eq_zero e1, List.eq_nil_of_length_eq_zero e2] at he
    simp only [eqV, Option.some.injEq] at he
    subst he
    simp [Op.eqFields]
  | fl :: fs, off, l, r, h, he, w => by
    simp only [eqFs] at h
    split at h
    · rename_i l1 s q h1 h2 h3
      simp only [Option.ite_none_right_eq_some, Option.some.injEq] at h
      obtain ⟨⟨hls, rfl, hnm⟩, rfl⟩ := h
      rw [h2] at h3
      simp only [Option.getD_some] at h3
      obtain ⟨r1, r2, g1, g2, rfl⟩ := eqV_append he
      obtain ⟨⟨ag, hg, hag⟩, hrun⟩ := hf _ _ h1
      rw [hls] at g1 g2
      obtain ⟨x, y, p1, p2, p3, p4, p5⟩ := part_eq hg h2 hls (fun e => by rw [← hls]; exact hag e) g1 w
      rw [List.drop_drop, List.drop_drop] at g2
      have ih := eqFs_spec hf h3 g2 w
      simp only [Op.eqFields, if_pos hnm, Sem.run_bind, p1, p2, Result.andThen_ok, hrun x y r1 p3 p4 p5]
      cases r1
      · simp
      · simpa using ih
    · simp at h

theorem eqIs_spec {D : Nat} {f : TypeId → Option (List LK)} (hf : EqOk P D f) {xs ys : Array Value} {e : TypeId} {s : Nat} {l : List LK} (h1 : f e = some l) (h2 : szT P e = some s) (hls : l.length = s) : ∀ (n k : Nat) {r : Bool},
    eqV (List.replicate n l).flatten (xs.toList.drop (k * s)) (ys.toList.drop (k * s)) = some r → ∀ w, (Op.eqItems D e s xs ys (List.range' k n)).run P w = .ok r w
  | 0, k, r, he, w => by
    simp only [List.replicate_zero, List.flatten_nil] at he
    obtain ⟨e1, e2⟩ := eqV_len he
    rw [List.eq_nil_of_length_eq_zero e1, List.eq_nil_of_length_eq_zero e2] at he
    simp only [eqV, Option.some.injEq] at he
    subst he
    simp [Op.eqItems]
  | n + 1, k, r, he, w => by
    rw [List.replicate_succ, List.flatten_cons] at he
    obtain ⟨r1, r2, g1, g2, rfl⟩ := eqV_append he
    obtain ⟨⟨ag, hg, hag⟩, hrun⟩ := hf _ _ h1
    rw [hls] at g1 g2
    obtain ⟨x, y, p1, p2, p3, p4, p5⟩ := part_eq hg h2 hls (fun e => by rw [← hls]; exact hag e) g1 w
    rw [List.drop_drop, List.drop_drop, ← Nat.succ_mul] at g2
    have ih := eqIs_spec hf h1 h2 hls n (k + 1) g2 w
    simp only [List.range'_succ, Op.eqItems, Sem.run_bind, p1, p2, Result.andThen_ok, hrun x y r1 p3 p4 p5]
    cases r1
    · simp
    · simpa using ih

theorem eqTy_spec : ∀ (k d : Nat), EqOk P (d + k) (eqTy P k)
  | 0, d => fun t l h => by simp [eqTy] at h
  | k + 1, d => fun t l h => by
    have ih : EqOk P (d + k) (eqTy P k) := eqTy_spec k d
    simp only [eqTy] at h
    have one : ∀ {x : Value}, aggT P t = some false → Sh P t x → x.cells = #[x] := fun hg hx => hx false hg
    have scal : ∀ {x y : Value} {kk : LK} {r : Bool}, x.cells = #[x] → y.cells = #[y] → eqV [kk] x.cells.toList y.cells.toList = some r → leafV kk x y = some r := by
      intro x y kk r hx hy he
      rw [hx, hy] at he
      simp only [eqV] at he
      split at he
      · rename_i p q h1 h2; simp only [Option.some.injEq] at h2; subst h2; simpa [h1] using he
      · simp at he
    split at h
    · rename_i ik hu
      simp only [Option.some.injEq] at h
      subst h
      have hg : aggT P t = some false := by simp [aggT, hu]
      refine ⟨⟨false, hg, fun _ => rfl⟩, fun x y r hx hy he w => ?_⟩
      have := scal (one hg hx) (one hg hy) he
      unfold leafV at this
      split at this <;> first | (simp at this; done) | skip
      · rename_i heq; 
        simp only [Option.ite_none_right_eq_some, Option.some.injEq] at this
        obtain ⟨rfl, rfl⟩ := this
        exact run_equalIn_int w (d + k) t _ _ _ _ hu
      · rename_i heq; cases heq
      · rename_i heq; cases heq
    · rename_i hu
      simp only [Option.some.injEq] at h
      subst h
      have hg : aggT P t = some false := by simp [aggT, hu]
      refine ⟨⟨false, hg, fun _ => rfl⟩, fun x y r hx hy he w => ?_⟩
      have := scal (one hg hx) (one hg hy) he
      unfold leafV at this
      split at this <;> first | (simp at this; done) | skip
      · rename_i heq; cases heq
      · simp only [Option.some.injEq] at this
        subst this
        exact run_equalIn_bool w (d + k) t _ _ hu
      · rename_i heq; cases heq
    · rename_i hu
      simp only [Option.some.injEq] at h
      subst h
      have hg : aggT P t = some false := by simp [aggT, hu]
      refine ⟨⟨false, hg, fun _ => rfl⟩, fun x y r hx hy he w => ?_⟩
      have := scal (one hg hx) (one hg hy) he
      unfold leafV at this
      split at this <;> first | (simp at this; done) | skip
      · rename_i heq; cases heq
      · rename_i heq; cases heq
      · simp only [Option.some.injEq] at this
        subst this
        rw [beq_toListBytes]
        exact run_equalIn_string w (d + k) t _ _ hu
    · rename_i fs hu
      simp only [Option.ite_none_left_eq_some] at h
      obtain ⟨hp, h⟩ := h
      have hg : aggT P t = some true := by simp [aggT, hu]
      refine ⟨⟨true, hg, fun e => by cases e⟩, fun x y r hx hy he w => ?_⟩
      obtain ⟨xs, rfl⟩ := hx true hg
      obtain ⟨ys, rfl⟩ := hy true hg
      have hfo : P.fieldsOf t = fs := by simp [Program.fieldsOf, hu]
      rw [show d + (k + 1) = (d + k) + 1 from rfl, run_equalIn_struct w (d + k) t xs ys (by rw [hfo]; exact hu) (by simpa using hp), hfo]
      exact eqFs_spec ih h (by simpa [Value.cells] using he) w
    · rename_i n e hu
      split at h
      · rename_i l1 s h1 h2
        simp only [Option.ite_none_right_eq_some, Option.some.injEq] at h
        obtain ⟨hls, rfl⟩ := h
        have hg : aggT P t = some true := by simp [aggT, hu]
        refine ⟨⟨true, hg, fun e => by cases e⟩, fun x y r hx hy he w => ?_⟩
        obtain ⟨xs, rfl⟩ := hx true hg
        obtain ⟨ys, rfl⟩ := hy true hg
        have hi : ∃ i, P.info? e = some i ∧ i.size = s := by
          unfold szT at h2
          simpa [Option.map_eq_some_iff] using h2
        obtain ⟨i, hi, his⟩ := hi
        have hc : P.cellsOf e = s := by simp [Program.cellsOf, hi, his]
        rw [show d + (k + 1) = (d + k) + 1 from rfl, run_equalIn_array w (d + k) xs ys hu hi, hc, List.range_eq_range']
        exact eqIs_spec ih h1 h2 hls n 0 (by simpa [Value.cells] using he) w
      · simp at h
    · simp at h

theorem eqC_V : ∀ {ks : List LK} {as bs : List AV} {vs us : List Value} {r : Bool}, VRs c as vs → VRs c bs us → eqC ks as bs = some r → eqV ks vs us = some r
  | [], [], [], vs, us, r, h1, h2, h => by rw [VRs] at h1 h2; subst h1 h2; simpa [eqC, eqV] using h
  | [], _ :: _, _, _, _, _, _, _, h => by simp [eqC] at h
  | [], [], _ :: _, _, _, _, _, _, h => by simp [eqC] at h
  | _ :: _, [], _, _, _, _, _, _, h => by simp [eqC] at h
  | _ :: _, _ :: _, [], _, _, _, _, _, h => by simp [eqC] at h
  | k :: ks, a :: as, b :: bs, vs, us, r, h1, h2, h => by
    rw [VRs] at h1 h2
    obtain ⟨v, vs', rfl, v1, v2⟩ := h1
    obtain ⟨u, us', rfl, u1, u2⟩ := h2
    simp only [eqC] at h
    split at h
    · rename_i p q e1 e2
      have ih := eqC_V v2 u2 e2
      have hl : leafV k v u = some p := by
        unfold leafA at e1
        split at e1 <;> first | (simp at e1; done) | skip
        all_goals (rw [VR] at v1 u1; subst v1 u1; simpa [leafV] using e1)
      simp only [eqV, hl, ih]
      exact h
    · simp at h

theorem goes_eqs {neg : Bool} {op : BinOp} {t yt : TypeId} {x y : Operand} {x' y' : Opd} {ks : List LK} {as bs : List AV} {q : Bool} (ho : o.op = .binOp op t x y yt) (hop : op = if neg then .neq else .eql) (ht : eqTy P 20 t = some ks) (hag : aggT P t = some true) (hm : P.eqGuardType P.depth t = false)
    (h : Sim w0 c) (hF : FR c fr a.tmps) (h1 : lowOpd x = some x') (h2 : lowOpd y = some y') (ex : ev fr x' = .agg as) (ey : ev fr y' = .agg bs) (hr : eqC ks as bs = some q) : Goes P o a w0 c id (.sc (.bool (if neg then !q else q))) c.H := by
  have hx := evR hF h1
  have hy := evR hF h2
  rw [ex, VR] at hx
  rw [ey, VR] at hy
  obtain ⟨xs, hx, hxs⟩ := hx
  obtain ⟨ys, hy, hys⟩ := hy
  subst hop
  have hsh : ∀ vs, Sh P t (.agg vs) := fun vs ag h => by rw [hag] at h; cases h; exact ⟨_, rfl⟩
  have he := (eqTy_spec (P := P) 20 9980 t ks ht).2 (.agg xs) (.agg ys) q (hsh _) (hsh _) (by simpa [Value.cells] using eqC_V hxs hys hr) c.w
  refine goes_value h (v := _) ?_ (by rw [VR])
  unfold execOp
  cases neg
  · simp only [ho, hx, hy, Sem.run_bind, run_eqGuard_agg c.w _ t x y xs ys hm, Result.andThen_ok, Bool.false_eq_true, if_false, run_eql_struct, he, Sem.run_pure]
  · simp only [ho, hx, hy, Sem.run_bind, run_eqGuard_agg c.w _ t x y xs ys hm, Result.andThen_ok, if_true, run_neq_struct, he, Sem.run_pure]
end
end Go.Abs
