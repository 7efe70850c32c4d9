/- Struct, array and slice literals. -/
import Derived.Test.YtliabecchkolgaaAbsE
import Derived.Laws.Tables
import Derived.Great.BuildSlice
namespace Go.Abs
open Go.RowKit

section
variable {P : Program} {o : Oper} {a : Act} {w0 : World} {c : Cx} {id : Nat}

theorem fold_set (off : Nat) : ∀ (l : List Value) (k : Nat) (cells : Array Value), ((l.zipIdx k).foldl (fun cs (x : Value × Nat) => cs.setIfInBounds (off + x.2) x.1) cells).size = cells.size ∧
    ∀ m, m < cells.size → ((l.zipIdx k).foldl (fun cs (x : Value × Nat) => cs.setIfInBounds (off + x.2) x.1) cells)[m]? = if off + k ≤ m ∧ m < off + k + l.length then l[m - (off + k)]? else cells[m]?
  | [], k, cells => by
    refine ⟨rfl, fun m _ => ?_⟩
    rw [if_neg (by simp)]; rfl
  | v :: l, k, cells => by
    obtain ⟨h1, h2⟩ := fold_set off l (k + 1) (cells.setIfInBounds (off + k) v)
    simp only [List.zipIdx_cons, List.foldl_cons]
    refine ⟨by rw [h1]; simp, fun m hm => ?_⟩
    rw [h2 m (by simpa using hm)]
    by_cases q1 : off + (k + 1) ≤ m ∧ m < off + (k + 1) + l.length
    · rw [if_pos q1, if_pos (by simp; omega), show m - (off + k) = (m - (off + (k + 1))) + 1 by omega, List.getElem?_cons_succ]
    · rw [if_neg q1, Array.getElem?_setIfInBounds]
      by_cases q2 : off + k = m
      · subst q2; rw [if_pos rfl, if_pos hm, if_pos (by simp)]; simp
      · rw [if_neg q2, if_neg (by simp; omega)]

theorem fill_fold (off : Nat) (v : Value) (cells : Array Value) : (v.cells.zipIdx.foldl (fun cs (x : Value × Nat) => cs.setIfInBounds (off + x.2) x.1) cells).size = cells.size ∧
    ∀ m, m < cells.size → (v.cells.zipIdx.foldl (fun cs (x : Value × Nat) => cs.setIfInBounds (off + x.2) x.1) cells)[m]? = if off ≤ m ∧ m < off + v.cells.size then v.cells[m - off]? else cells[m]? := by
  have h := fold_set off v.cells.toList 0 cells
  have e : v.cells.zipIdx.foldl (fun cs (x : Value × Nat) => cs.setIfInBounds (off + x.2) x.1) cells = (v.cells.toList.zipIdx 0).foldl (fun cs (x : Value × Nat) => cs.setIfInBounds (off + x.2) x.1) cells := by
    rw [← Array.foldl_toList, Array.toList_zipIdx]
  rw [e]
  refine ⟨h.1, fun m hm => ?_⟩
  rw [h.2 m hm]
  simp

/-- Parts with their places: what the model is handed, and what we say of it. -/
inductive Parts (c : Cx) (place : Nat → Option (Nat × Nat)) : List (Nat × Value) → List (Nat × Nat × AV) → Prop
  | nil : Parts c place [] []
  | cons {i : Nat} {v : Value} {off sz : Nat} {x : AV} {ps : List (Nat × Value)} {qs : List (Nat × Nat × AV)} : place i = some (off, sz) → VR c x v → Parts c place ps qs → Parts c place ((i, v) :: ps) ((off, sz, x) :: qs)

theorem fill_spec {place : Nat → Option (Nat × Nat)} {ps : List (Nat × Value)} {qs : List (Nat × Nat × AV)} (hp : Parts c place ps qs) : ∀ {cells : Array Value} {acs rs : List AV}, VRs c acs cells.toList → fillA acs qs = some rs →
    ∃ cells', Instr.fill place cells ps = some cells' ∧ VRs c rs cells'.toList := by
  induction hp with
  | nil =>
    intro cells acs rs h hf
    simp only [fillA, Option.some.injEq] at hf
    subst hf
    exact ⟨cells, rfl, h⟩
  | @cons i v off sz x ps qs hpl hv _ ih =>
    intro cells acs rs h hf
    simp only [fillA] at hf
    cases hc : cellsOf x with
    | none => rw [hc] at hf; simp at hf
    | some cs =>
      rw [hc] at hf
      simp only [Option.ite_none_right_eq_some] at hf
      obtain ⟨⟨h1, h2⟩, hf⟩ := hf
      obtain ⟨hvs, _⟩ := hv.cells hc
      have hvl := hvs.length
      have hcl := h.length
      simp at hvl hcl
      obtain ⟨g1, g2⟩ := fill_fold off v cells
      have hnew : VRs c (spl acs off cs) (v.cells.zipIdx.foldl (fun cs (x : Value × Nat) => cs.setIfInBounds (off + x.2) x.1) cells).toList := by
        have e : (v.cells.zipIdx.foldl (fun cs (x : Value × Nat) => cs.setIfInBounds (off + x.2) x.1) cells).toList = cells.toList.take off ++ v.cells.toList ++ cells.toList.drop (off + cs.length) := by
          apply List.ext_getElem?
          intro m
          by_cases hm : m < cells.size
          · have := g2 m hm
            rw [Array.getElem?_toList, this]
            simp only [List.append_assoc, List.getElem?_append, List.length_take, Array.length_toList]
            have hmin : min off cells.size = off := by omega
            rw [hmin]
            by_cases q1 : m < off
            · rw [if_pos q1, if_neg (by omega)]; simp [q1]
            · rw [if_neg q1]
              by_cases q2 : m < off + v.cells.size
              · rw [if_pos ⟨by omega, q2⟩, if_pos (by omega)]; simp
              · rw [if_neg (by omega), if_neg (by omega), List.getElem?_drop]
                simp
                congr 1
                omega
          · rw [List.getElem?_eq_none (by simp only [Array.length_toList, g1]; omega), List.getElem?_eq_none]
            simp only [List.length_append, List.length_take, Array.length_toList, List.length_drop]
            omega
        rw [e]
        unfold spl
        exact VRs.append (h.drop _) (VRs.append hvs (h.take _))
      obtain ⟨cells', k1, k2⟩ := ih hnew hf
      refine ⟨cells', ?_, k2⟩
      simp only [Instr.fill, hpl]
      rw [if_neg (by simp; omega)]
      exact k1

theorem goes_build {t : TypeId} {parts : Array (Nat × Operand)} {it : TypeInfo} {z : Value} {place : Nat → Option (Nat × Nat)} {qs : List (Nat × Nat × AV)} {rs : List AV} (ho : o.op = .build t parts) (hi : P.info? t = some it) (hz : it.zero = some z)
    (hplace : (∃ n e ie, P.underlying t = some (.array n e) ∧ P.info? e = some ie ∧ place = fun i => some (i * ie.size, ie.size)) ∨ (∃ fs places, P.underlying t = some (.struct fs) ∧ fs.toList.mapM (fun f => (P.info? f.type).map fun i => (f.offset, i.size)) = some places ∧ place = fun i => places.toArray[i]?))
    (h : Sim w0 c) (hp : Parts c place (parts.map fun (i, x) => (i, a.eval x)).toList qs) (hf : fillA (z.cells.toList.map .sc) qs = some rs) : Goes P o a w0 c id (.agg rs) c.H := by
  obtain ⟨cells', k1, k2⟩ := fill_spec hp (VRs.sc _) hf
  refine goes_value (v := .agg cells') h ?_ (by rw [VR]; exact ⟨cells', rfl, k2⟩)
  unfold execOp
  simp only [ho, Sem.run_bind, Sem.run_pure]
  rw [run_build c.w t _ cells' ?_]
  · rfl
  · unfold Program.built
    rcases hplace with ⟨n, e, ie, h1, h2, h3⟩ | ⟨fs, places, h1, h2, h3⟩
    · simp only [hi, h1, hz, h2]; rw [h3] at k1; exact k1
    · simp only [hi, h1, hz, h2]; rw [h3] at k1; exact k1

/-- The rows of a slice literal, element by element. -/
theorem fill_rows {sz n : Nat} {ag : Bool} : ∀ {ps : List (Nat × Value)} {qs : List (Nat × AV)} {arr : Array Value} {es : List AV}, ps.length = qs.length → (∀ (k : Nat) (p : Nat × Value) (q : Nat × AV), ps[k]? = some p → qs[k]? = some q → p.1 = q.1 ∧ VR c q.2 p.2) →
    qs.all (fun p => decide (p.1 < n) && fits ag sz p.2) = true → es.length = n → arr.size = n * sz →
    (∀ i, i < n → ∃ u : Value, u.cells.size = sz ∧ (∀ j, j < sz → arr[i * sz + j]? = u.cells[j]?) ∧ (∀ (j : Nat) (x : Value), u.cells[j]? = some x → x.oneCell' = true) ∧ VR c (es.getD i .any) u) →
    ∃ arr', Instr.fill (fun i => some (i * sz, sz)) arr ps = some arr' ∧ arr'.size = n * sz ∧ (qs.foldl (fun l p => l.set p.1 p.2) es).length = n ∧
      ∀ i, i < n → ∃ u : Value, u.cells.size = sz ∧ (∀ j, j < sz → arr'[i * sz + j]? = u.cells[j]?) ∧ (∀ (j : Nat) (x : Value), u.cells[j]? = some x → x.oneCell' = true) ∧ VR c ((qs.foldl (fun l p => l.set p.1 p.2) es).getD i .any) u
  | [], [], arr, es, _, _, _, hl, hs, hel => ⟨arr, rfl, hs, hl, hel⟩
  | [], _ :: _, _, _, h, _, _, _, _, _ => by simp at h
  | _ :: _, [], _, _, h, _, _, _, _, _ => by simp at h
  | (i, v) :: ps, (i', x) :: qs, arr, es, hlen, hpq, hall, hl, hs, hel => by
    obtain ⟨hi, hv⟩ := hpq 0 _ _ rfl rfl
    simp only at hi hv
    subst hi
    simp only [List.all_cons, Bool.and_eq_true, decide_eq_true_eq] at hall
    obtain ⟨⟨hin, hfit⟩, hall⟩ := hall
    obtain ⟨f1, f2⟩ := fits_spec hfit hv
    obtain ⟨g1, g2⟩ := fill_fold (i * sz) v arr
    have hisz : i * sz + sz ≤ n * sz := by rw [← Nat.succ_mul]; exact Nat.mul_le_mul_right _ hin
    obtain ⟨arr', k1, k2, k3, k4⟩ := fill_rows (ps := ps) (qs := qs) (arr := v.cells.zipIdx.foldl (fun cs (x : Value × Nat) => cs.setIfInBounds (i * sz + x.2) x.1) arr) (es := es.set i x) (by simpa using hlen) (fun k p q hp hq => hpq (k + 1) p q (by simpa using hp) (by simpa using hq)) hall (by simpa using hl) (by rw [g1, hs]) (fun m hm => by
      have hmsz : m * sz + sz ≤ n * sz := by rw [← Nat.succ_mul]; exact Nat.mul_le_mul_right _ hm
      by_cases hmi : m = i
      · subst hmi
        refine ⟨v, f1, fun j hj => ?_, f2, by simpa [List.getD, List.getElem?_set, hl, hm] using hv⟩
        rw [g2 _ (by omega), if_pos (by omega)]
        congr 1
        omega
      · obtain ⟨u, u1, u2, u3, u4⟩ := hel m hm
        refine ⟨u, u1, fun j hj => ?_, u3, by simpa [List.getD, List.getElem?_set, Ne.symm hmi] using u4⟩
        rw [g2 _ (by omega), if_neg ?_, u2 j hj]
        rcases Nat.lt_or_gt_of_ne hmi with hlt | hgt
        · have : m * sz + sz ≤ i * sz := by rw [← Nat.succ_mul]; exact Nat.mul_le_mul_right _ hlt
          omega
        · have : i * sz + sz ≤ m * sz := by rw [← Nat.succ_mul]; exact Nat.mul_le_mul_right _ hgt
          omega)
    refine ⟨arr', ?_, k2, by simpa using k3, by simpa using k4⟩
    simp only [Instr.fill]
    rw [if_neg (by simp; omega)]
    exact k1

theorem goes_bslice {t e : TypeId} {n : Nat} {parts : Array (Nat × Operand)} {qs : List (Nat × AV)} {sz : Nat} {ag : Bool} {z : List Value} (ho : o.op = .buildSlice t n parts) (ht : P.underlying t = some (.slice e)) (hz : zT P e = some (sz, ag, z)) (hsm : n * sz ≤ 16777216)
    (h : Sim w0 c) (hid : ¬ c.U id) (hl : parts.size = qs.length) (hpq : ∀ (k : Nat) (p : Nat × Value) (q : Nat × AV), (parts.map fun (i, x) => (i, a.eval x)).toList[k]? = some p → qs[k]? = some q → p.1 = q.1 ∧ VR c q.2 p.2)
    (hall : qs.all (fun p => decide (p.1 < n) && fits ag sz p.2) = true) (d : AV) :
    Goes P o a w0 c id (.sl id n) (upd c.H id (some (.row e sz d (qs.foldl (fun l p => l.set p.1 p.2) (List.replicate n (zav ag z)))))) := by
  obtain ⟨i, v, hi, hz0, h1, hg, hk, hc, hlz, hpos, hone, hv, hfit⟩ := zT_spec hz
  have hvs : v.cells.size = sz := by simp [hc, hlz]
  have hgd : ∀ m, m < n → (List.replicate n (zav ag z)).getD m .any = zav ag z := fun m hm => by rw [List.getD, List.getElem?_replicate, if_pos hm]; rfl
  obtain ⟨arr', k1, k2, k3, k4⟩ := fill_rows (c := c) (sz := sz) (n := n) (ag := ag) (ps := (parts.map fun (i, x) => (i, a.eval x)).toList) (qs := qs) (arr := madeCells v.cells (n * sz)) (es := List.replicate n (zav ag z)) (by simpa using hl) hpq hall (by simp) (size_madeCells _ _) (fun m hm =>
    ⟨v, hvs, fun j hj => madeCells_at v.cells sz n m j hvs hm hj, hone, by rw [hgd m hm]; exact hv c⟩)
  have hrun : (Instr.buildSlice t n (parts.map fun (i, x) => (i, a.eval x))).run P c.w = .ok (.slice (some ⟨c.w.heap.size, 0, none⟩) n n) (c.w.alloc (.cells arr' e)) := by
    generalize (parts.map fun (i, x) => (i, a.eval x)) = pv at k1 ⊢
    by_cases h0 : n * sz = 0
    · have hn : n = 0 := by rcases Nat.mul_eq_zero.1 h0 with h0 | h0 <;> omega
      subst hn
      have hm : madeCells v.cells (0 * sz) = #[] := by simp [madeCells]
      rw [hm] at k1
      simp [Instr.buildSlice, run_underlying ht, sizeOf, typeInfo, hi, h1, k1, newRow, Array.range_zero']
    · exact run_buildSlice c.w t e n pv arr' i v ht hi hz0 (by rw [h1]; omega) (by rw [h1]; exact h0) (by rw [h1]; exact k1)
  refine goes_new d (es := qs.foldl (fun l p => l.set p.1 p.2) (List.replicate n (zav ag z))) (arr := arr') (v := .slice (some ⟨c.w.heap.size, 0, none⟩) n n) h hid hpos (W := c.w.alloc (.cells arr' e)) rfl rfl rfl rfl ?_ ?_ ?_ ?_
  · unfold execOp
    simp only [ho, Sem.run_bind, hrun, Result.andThen_ok, Sem.run_pure]
  · rw [k3, k2]; exact Nat.le_refl _
  · intro m hm
    rw [k3] at hm
    obtain ⟨u, u1, u2, u3, u4⟩ := k4 m hm
    exact ⟨u, u1, u2, u3, u4⟩
  · intro c' hU hρ hH
    rw [VR]
    refine ⟨hU, _, _, rfl, fun e' sz' d' es he => ?_⟩
    rw [hH] at he
    simp only [Option.some.injEq, Blk.row.injEq] at he
    obtain ⟨rfl, rfl, rfl, rfl⟩ := he
    refine ⟨by rw [k3]; exact Nat.le_refl _, fun _ => .inr ⟨_, _, _, hρ, rfl, Nat.le_refl _, by rw [k2]; exact Nat.le_refl _, ?_⟩⟩
    have : n ≤ n * sz := Nat.le_mul_of_pos_right n hpos
    unfold maxLen; omega
end
end Go.Abs
