/- Steps that lay rows, write them, or append to them. -/
import Derived.Test.YtliabecchkolgaaAbsC
namespace Go.Abs
open Go.RowKit

section
variable {P : Program} {o : Oper} {a : Act} {w0 : World} {c : Cx} {id : Nat} {fr : Fr}

theorem nxt_put {b : Nat} {ρ : Nat → Option (Nat × Nat × Nat)} {H : Nat → Option Blk} {w : World} (h : Sim w0 ⟨ρ, H, fun x => c.U x ∨ x = b, w, c.M0⟩ ∧ c.le ⟨ρ, H, fun x => c.U x ∨ x = b, w, c.M0⟩) (hb : c.U b) :
    Sim w0 (nxt c id ρ H w) ∧ c.le (nxt c id ρ H w) := by
  obtain ⟨h1, h2⟩ := h
  obtain ⟨k1, k2⟩ := h1.used (U := fun x => c.U x ∨ x = id) (fun x hx => by
    rcases hx with hx | rfl
    · exact .inl hx
    · exact .inl hb)
  exact ⟨k1, h2.trans k2⟩

/-- The cells of a list of elements, laid in a row. -/
def flat (vs : List Value) : List Value := vs.flatMap (·.cells.toList)

theorem goes_new {e : TypeId} {sz : Nat} (d : AV) {es : List AV} {arr : Array Value} {v : Value} {r : AV} (h : Sim w0 c) (hid : ¬ c.U id) (hz : 0 < sz) {W : World} (hW : W.heap = (c.w.heap.push (.cells arr e)))
    (hos : W.os = c.w.os) (htp : W.tape = c.w.tape) (hout : W.output = c.w.output)
    (hrun : (execOp a.eval o).run P c.w = .ok (.value v) W)
    (hlen : es.length * sz ≤ arr.size)
    (hel : ∀ i, i < es.length → ∃ u, u.cells.size = sz ∧ (∀ j, j < sz → arr[i * sz + j]? = u.cells[j]?) ∧ (∀ (j : Nat) (x : Value), u.cells[j]? = some x → x.oneCell' = true) ∧ VR c (es.getD i .any) u)
    (hv : ∀ c' : Cx, c'.U id → c'.ρ id = some (c.w.heap.size, 0, arr.size) → c'.H id = some (.row e sz d es) → VR c' r v) :
    Goes P o a w0 c id r (upd c.H id (some (.row e sz d es))) := by
  intro K Q hK
  unfold Oper.wp
  rw [hrun, Oper.upon_value]
  have hblk : W.heap[c.w.heap.size]? = some (.cells arr e (0, 0)) := by rw [hW]; simp
  have hold : ∀ k, k < c.w.heap.size → W.heap[k]? = c.w.heap[k]? := fun k hk => by rw [hW, Array.getElem?_push, if_neg (by omega)]
  obtain ⟨h1, h2⟩ := h.put (b := id) (e := e) (sz := sz) d (es := es) (w' := W) (blk := c.w.heap.size) (o := 0) (z := arr.size) (arr := arr) hz (.inl hid) (.inl rfl) hos htp hout
    (by rw [hW]; simp) (fun k hk _ => hold k hk) hblk (by omega) hlen (fun i hi => by
      obtain ⟨u, hu1, hu2, hu3, hu4⟩ := hel i hi
      refine ⟨u, ⟨hu1, fun j hj => ?_, hu3⟩, hu4⟩
      rw [cell_of_row W c.w.heap.size _ arr e (0, 0) hblk, ← hu2 j hj]
      congr 1
      omega)
  exact hK v _ _ h1 h2 (hv _ (.inr rfl) (by simp [nxt]) (by simp [nxt]))

theorem fits_spec {ag : Bool} {sz : Nat} {x : AV} {v : Value} (hf : fits ag sz x = true) (h : VR c x v) : v.cells.size = sz ∧ ∀ (j : Nat) (u : Value), v.cells[j]? = some u → u.oneCell' = true := by
  by_cases ha : ∃ cs, x = .agg cs
  · obtain ⟨cs, rfl⟩ := ha
    simp only [fits, Bool.and_eq_true, beq_iff_eq] at hf
    rw [VR] at h
    obtain ⟨vs, rfl, hr⟩ := h
    have hl := hr.length
    simp only [Value.cells]
    refine ⟨by simp at hl; omega, fun j u hu => hr.ones hf.2 u ?_⟩
    exact List.mem_of_getElem? (i := j) (by simpa using hu)
  · have hf' : (!ag && sz == 1 && one x) = true := by cases x <;> first | exact hf | exact absurd ⟨_, rfl⟩ ha
    simp only [Bool.and_eq_true, beq_iff_eq] at hf'
    have h1 := h.oneC hf'.2
    rw [cells_one h1]
    refine ⟨by simp [hf'.1.2], fun j u hu => ?_⟩
    have : u = v := by
      rcases j with _ | j <;> simp at hu
      exact hu.symm
    rw [this]; exact h1

theorem zT_spec {t : TypeId} {sz : Nat} {ag : Bool} {z : List Value} (hz : zT P t = some (sz, ag, z)) : ∃ (i : TypeInfo) (v : Value), P.info? t = some i ∧ i.zero = some v ∧ i.size = sz ∧ aggT P t = some ag ∧ szT P t = some sz ∧ v.cells = z.toArray ∧ z.length = sz ∧ 0 < sz ∧
    (∀ (j : Nat) (u : Value), v.cells[j]? = some u → u.oneCell' = true) ∧ (∀ c, VR c (zav ag z) v) ∧ fits ag sz (zav ag z) = true := by
  unfold zT at hz
  cases hi : P.info? t with
  | none => rw [hi] at hz; simp at hz
  | some i =>
    cases hg : aggT P t with
    | none => rw [hi, hg] at hz; simp at hz
    | some g =>
      rw [hi, hg] at hz
      simp only at hz
      cases h0 : i.zero with
      | none => rw [h0] at hz; simp at hz
      | some v =>
        rw [h0] at hz
        by_cases ha : ∃ cs, v = .agg cs
        · obtain ⟨cs, rfl⟩ := ha
          simp only [Option.ite_none_right_eq_some, Bool.and_eq_true, beq_iff_eq, decide_eq_true_eq, Option.some.injEq, Prod.mk.injEq, Array.all_eq_true] at hz
          obtain ⟨⟨⟨⟨hg', h1⟩, h2⟩, h3⟩, h4, h5, h6⟩ := hz
          subst h4 h5 h6 hg'
          refine ⟨i, _, rfl, h0, rfl, rfl, by simp [szT, hi], by simp [Value.cells], by simpa using h1, h2, fun j u hu => ?_, fun c => ?_, ?_⟩
          · simp only [Value.cells] at hu
            obtain ⟨hj, rfl⟩ := Array.getElem?_eq_some_iff.1 hu
            exact h3 j hj
          · simp only [zav, if_true]; rw [VR]; exact ⟨cs, rfl, VRs.sc _⟩
          · simp only [zav, if_true, fits, Bool.true_and, List.length_map, Array.length_toList, h1, BEq.rfl]
            have : ∀ l : List Value, (∀ u ∈ l, u.oneCell' = true) → allOne (l.map .sc) = true := by
              intro l
              induction l with
              | nil => intro _; rfl
              | cons x l ih => intro hl; simp only [List.map_cons, allOne, one, hl x (by simp), Bool.true_and]; exact ih fun u hu => hl u (by simp [hu])
            refine this _ fun u hu => ?_
            obtain ⟨j, hj, rfl⟩ := List.mem_iff_getElem.1 hu
            simpa using h3 j (by simpa using hj)
        · have hz' : (if (!g && i.size == 1 && v.oneCell') = true then some (1, false, [v]) else none) = some (sz, ag, z) := by
            cases v <;> first | exact hz | exact absurd ⟨_, rfl⟩ ha
          simp only [Option.ite_none_right_eq_some, Bool.and_eq_true, beq_iff_eq, Option.some.injEq, Prod.mk.injEq, Bool.not_eq_true'] at hz'
          obtain ⟨⟨⟨hg', h1⟩, h2⟩, h4, h5, h6⟩ := hz'
          subst h4 h5 h6 hg'
          have hc := cells_one h2
          refine ⟨i, v, rfl, h0, h1, rfl, by simp [szT, hi, h1], by simp [hc], rfl, by omega, fun j u hu => ?_, fun c => ?_, ?_⟩
          · rw [hc] at hu
            rcases j with _ | j <;> simp at hu
            subst hu; exact h2
          · simp only [zav]; simp; rw [VR]
          · simp [zav, fits, one, h2]

theorem goes_box {t : TypeId} {x : Operand} {v : Value} {xa : AV} {sz : Nat} {ag : Bool} (ho : o.op = .box t x) (hf : fits ag sz xa = true) (hz : 0 < sz) (h : Sim w0 c) (hid : ¬ c.U id) (hx : a.eval x = v) (hv : VR c xa v) (d : AV) :
    Goes P o a w0 c id (.pt id 1 0 0) (upd c.H id (some (.row t sz d [xa]))) := by
  obtain ⟨f1, f2⟩ := fits_spec hf hv
  refine goes_new d (es := [xa]) (arr := v.cells) (v := .pointer (some ⟨c.w.heap.size, 0, none⟩)) h hid hz (W := c.w.alloc (.cells v.cells t)) rfl rfl rfl rfl ?_ (by simp [f1]) ?_ ?_
  · unfold execOp
    simp [ho, Instr.box, newVar, newRow, hx]
  · intro i hi
    have : i = 0 := by simpa using hi
    subst this
    exact ⟨v, f1, fun j _ => by simp, f2, by simpa using hv⟩
  · intro c' hU hρ hH
    rw [VR]
    refine ⟨hU, by omega, _, rfl, fun e sz' d' es he => ?_⟩
    rw [hH] at he
    simp only [Option.some.injEq, Blk.row.injEq] at he
    obtain ⟨rfl, rfl, rfl, rfl⟩ := he
    exact ⟨by simp, fun _ => ⟨hz, _, _, _, hρ, by simp⟩⟩

theorem goes_alloc {t : TypeId} {sz : Nat} {ag : Bool} {z : List Value} (ho : o.op = .alloc t) (hz : zT P t = some (sz, ag, z)) (h : Sim w0 c) (hid : ¬ c.U id) (d : AV) :
    Goes P o a w0 c id (.pt id 1 0 0) (upd c.H id (some (.row t sz d [zav ag z]))) := by
  obtain ⟨i, v, hi, h0, h1, hg, hk, hc, hl, hpos, hone, hv, hfit⟩ := zT_spec hz
  refine goes_new d (es := [zav ag z]) (arr := v.cells) (v := .pointer (some ⟨c.w.heap.size, 0, none⟩)) h hid hpos (W := c.w.alloc (.cells v.cells t)) rfl rfl rfl rfl ?_ (by simp [hc, hl]) ?_ ?_
  · unfold execOp
    simp [ho, Instr.alloc, newVar, newRow, zeroValue, typeInfo, hi, h0]
  · intro j hj
    have : j = 0 := by simpa using hj
    subst this
    exact ⟨v, by simp [hc, hl], fun j _ => by simp, hone, by simpa using hv c⟩
  · intro c' hU hρ hH
    rw [VR]
    refine ⟨hU, by omega, _, rfl, fun e sz' d' es he => ?_⟩
    rw [hH] at he
    simp only [Option.some.injEq, Blk.row.injEq] at he
    obtain ⟨rfl, rfl, rfl, rfl⟩ := he
    exact ⟨by simp, fun _ => ⟨hpos, _, _, _, hρ, by simp⟩⟩

theorem madeCells_at (z : Array Value) (sz n i j : Nat) (hs : z.size = sz) (hi : i < n) (hj : j < sz) : (madeCells z (n * sz))[i * sz + j]? = z[j]? := by
  have hlt : i * sz + j < n * sz := by
    have : i * sz + sz ≤ n * sz := by rw [← Nat.succ_mul]; exact Nat.mul_le_mul_right _ hi
    omega
  have hm : (i * sz + j) % sz = j := by rw [Nat.add_comm, Nat.add_mul_mod_self_right]; exact Nat.mod_eq_of_lt hj
  simp [madeCells, hlt, hs, hm, hj]

theorem goes_make {t e : TypeId} {l k : Operand} {kl kc : IntKind} {n : Int} {i : TypeInfo} {sz : Nat} {ag : Bool} {z : List Value} (ho : o.op = .makeSlice t l k) (ht : P.underlying t = some (.slice e)) (hi : P.info? e = some i) (hz : zT P e = some (sz, ag, z))
    (h : Sim w0 c) (hid : ¬ c.U id) (hl : a.eval l = .int kl n) (hk : a.eval k = .int kc n) (h0 : 0 ≤ n) (hb : n * i.bytes ≤ 281474976710656) (h63 : n ≤ 9223372036854775807) (d : AV) :
    Goes P o a w0 c id (.sl id n.toNat) (upd c.H id (some (.row e sz d (List.replicate n.toNat (zav ag z))))) := by
  obtain ⟨i', v, hi', hz0, h1, hg, hk', hc, hlz, hpos, hone, hv, hfit⟩ := zT_spec hz
  rw [hi] at hi'
  cases hi'
  have hr := run_make (P := P) c.w t e i v ht hi hz0 kl kc n n h0 (Int.le_refl _) (by rw [Int.mul_comm]; exact hb) h63
  refine goes_new d (es := List.replicate n.toNat (zav ag z)) (arr := madeCells v.cells (n.toNat * i.size)) (v := .slice (some ⟨c.w.heap.size, 0, none⟩) n.toNat n.toNat) h hid hpos (W := c.w.alloc (.cells (madeCells v.cells (n.toNat * i.size)) e)) rfl rfl rfl rfl ?_ ?_ ?_ ?_
  · unfold execOp
    simp [ho, hl, hk, hr]
  · simp [size_madeCells, h1]
  · intro j hj
    have hj : j < n.toNat := by simpa using hj
    refine ⟨v, by simp [hc, hlz], fun x hx => ?_, hone, ?_⟩
    · rw [h1, madeCells_at v.cells sz n.toNat j x (by simp [hc, hlz]) hj hx]
    · have hg : (List.replicate n.toNat (zav ag z)).getD j .any = zav ag z := by
        rw [List.getD, List.getElem?_replicate, if_pos hj]; rfl
      rw [hg]
      exact hv c
  · intro c' hU hρ hH
    rw [VR]
    refine ⟨hU, _, _, rfl, fun e' sz' d' es he => ?_⟩
    rw [hH] at he
    simp only [Option.some.injEq, Blk.row.injEq] at he
    obtain ⟨rfl, rfl, rfl, rfl⟩ := he
    refine ⟨by simp, fun _ => .inr ⟨_, _, _, hρ, rfl, Nat.le_refl _, by simp [size_madeCells, h1], by unfold maxLen; omega⟩⟩

/-! ### stores -/
theorem stE_spec {ag : Bool} {k sz off : Nat} {e y r : AV} {u v : Value} (hs : stE ag k e y sz off = some r) (hu : VR c e u) (hus : u.cells.size = sz) (huo : ∀ (j : Nat) (x : Value), u.cells[j]? = some x → x.oneCell' = true)
    (hy : VR c y v) (hk1 : ag = false → k = 1) (hoff : off < sz) :
    ∃ u', v.cells.size = k ∧ off + k ≤ sz ∧ (∀ x ∈ v.cells.toList, x.oneCell' = true) ∧ u'.cells.size = sz ∧ (∀ (j : Nat) (x : Value), u'.cells[j]? = some x → x.oneCell' = true) ∧ VR c r u' ∧
      (∀ j, j < sz → u'.cells[j]? = if off ≤ j ∧ j < off + k then v.cells[j - off]? else u.cells[j]?) := by
  cases ag with
  | true =>
    cases e <;> simp only [stE, reduceCtorEq] at hs
    cases y <;> simp only [reduceCtorEq] at hs
    rename_i cells ys
    split at hs
    · rename_i hy1
      obtain ⟨hyk, hyo⟩ := hy1
      have hy' := hy
      rw [VR] at hy'
      obtain ⟨vs, rfl, hvs⟩ := hy'
      have hvl := hvs.length
      have hvo := hvs.ones hyo
      rw [VR] at hu
      obtain ⟨us, rfl, hus'⟩ := hu
      have hul := hus'.length
      simp only [Value.cells] at hus huo
      simp at hvl hul
      split at hs
      · rename_i hw
        obtain ⟨rfl, rfl⟩ := hw
        simp only [Option.some.injEq] at hs
        subst hs
        refine ⟨.agg vs, by simp [Value.cells]; omega, by omega, by simpa [Value.cells] using hvo, by simp [Value.cells]; omega, fun j x hx => hvo x ?_, hy, fun j hj => ?_⟩
        · exact List.mem_of_getElem? (i := j) (by simpa [Value.cells] using hx)
        · rw [if_pos ⟨by omega, by omega⟩]; simp
      · split at hs
        · rename_i _ hle
          simp only [Option.some.injEq] at hs
          subst hs
          refine ⟨.agg (us.toList.take off ++ vs.toList ++ us.toList.drop (off + vs.size)).toArray, by simp [Value.cells]; omega, by omega, by simpa [Value.cells] using hvo, by simp [Value.cells]; omega, fun j x hx => ?_, ?_, fun j hj => ?_⟩
          · simp only [Value.cells, List.getElem?_toArray] at hx
            have hx := List.mem_of_getElem? hx
            simp only [List.mem_append] at hx
            rcases hx with (hx | hx) | hx
            · obtain ⟨i, hi, he⟩ := List.mem_iff_getElem.1 (List.mem_of_mem_take hx)
              exact huo i x (by simp at hi; simp [hi]; simpa using he)
            · exact hvo x hx
            · obtain ⟨i, hi, he⟩ := List.mem_iff_getElem.1 (List.mem_of_mem_drop hx)
              exact huo i x (by simp at hi; simp [hi]; simpa using he)
          · rw [VR]
            refine ⟨_, rfl, ?_⟩
            unfold spl
            have : (ys.length : Nat) = vs.size := by omega
            rw [this]
            exact VRs.append (hus'.drop _) (VRs.append hvs (hus'.take off))
          · simp only [Value.cells, List.getElem?_toArray, List.append_assoc, List.getElem?_append, List.length_take, Array.length_toList]
            have hm : min off us.size = off := by omega
            rw [hm]
            by_cases h1 : j < off
            · rw [if_pos h1, if_neg (by omega)]; simp [h1]
            · rw [if_neg h1]
              by_cases h2 : j < off + k
              · rw [if_pos (by omega), if_pos ⟨by omega, h2⟩]; simp
              · rw [if_neg (by omega), if_neg (by omega), List.getElem?_drop]
                simp
                congr 1
                omega
        · simp at hs
    · simp at hs
  | false =>
    have hk1 := hk1 rfl
    subst hk1
    by_cases ha : ∃ cells, e = .agg cells
    · obtain ⟨cells, rfl⟩ := ha
      simp only [stE, Option.ite_none_right_eq_some, Option.some.injEq] at hs
      obtain ⟨ho, rfl⟩ := hs
      have hv1 := hy.oneC ho
      rw [cells_one hv1]
      rw [VR] at hu
      obtain ⟨us, rfl, hus'⟩ := hu
      have hul := hus'.length
      simp only [Value.cells] at hus huo
      simp at hul
      refine ⟨.agg (us.setIfInBounds off v), by simp, by omega, by simpa using hv1, by simpa [Value.cells] using hus, fun j x hx => ?_, ?_, fun j hj => ?_⟩
      · simp only [Value.cells, Array.getElem?_setIfInBounds] at hx
        split at hx
        · split at hx
          · simp at hx; subst hx; exact hv1
          · simp at hx
        · exact huo j x hx
      · rw [VR]
        refine ⟨_, rfl, VRs.mk (by simp; omega) fun i hi w hw => ?_⟩
        simp only [List.length_set] at hi
        simp only [Array.toList_setIfInBounds, List.getElem?_set] at hw
        by_cases hio : off = i
        · subst hio
          rw [if_pos rfl, if_pos (by simp; omega)] at hw
          simp at hw
          subst hw
          simpa [List.getD, List.getElem?_set, hi] using hy
        · rw [if_neg hio] at hw
          obtain ⟨w', hw', hr⟩ := hus'.get i hi
          rw [hw] at hw'
          cases hw'
          simpa [List.getD, List.getElem?_set, hio] using hr
      · simp only [Value.cells, Array.getElem?_setIfInBounds]
        by_cases hj' : off = j
        · subst hj'; rw [if_pos rfl, if_pos (by omega), if_pos ⟨by omega, by omega⟩]; simp
        · rw [if_neg hj', if_neg (by omega)]
    · have hone : one y = true ∧ sz = 1 ∧ r = y := by
        cases e <;> first | exact absurd ⟨_, rfl⟩ ha | (simp only [stE, Option.ite_none_right_eq_some, Option.some.injEq] at hs; exact ⟨hs.1.1, hs.1.2, hs.2.symm⟩)
      obtain ⟨ho, rfl, rfl⟩ := hone
      have hv1 := hy.oneC ho
      have hc1 := cells_one hv1
      refine ⟨v, by simp [hc1], by omega, by simpa [hc1] using hv1, by simp [hc1], fun j x hx => ?_, hy, fun j hj => ?_⟩
      · rw [hc1] at hx
        rcases j with _ | j <;> simp at hx
        subst hx; exact hv1
      · have h1 : off = 0 := by omega
        subst h1
        rw [if_pos ⟨by omega, by omega⟩]; simp

theorem goes_store {t : TypeId} {x y : Operand} {ag : Bool} {k : Nat} (ho : o.op = .store t x y) (hk : szT P t = some k) (hk1 : ag = false → k = 1) (h : Sim w0 c)
    {b : Nat} {e : TypeId} {sz i off : Nat} {d ya r : AV} {es : List AV} {blk o' z : Nat} (hH : c.H b = some (.row e sz d es)) (hρ : c.ρ b = some (blk, o', z)) (hx : a.eval x = .pointer (some ⟨blk, o' + i * sz + off, none⟩)) (hi : i < es.length) (hoff : off < sz)
    (hy : VR c ya (a.eval y)) (hs : stE ag k (es.getD i d) ya sz off = some r) :
    Goes P o a w0 c id .any (upd c.H b (some (.row e sz d (es.set i r)))) := by
  intro K Q hK
  obtain ⟨hU, hz, hr⟩ := h.row b e sz d es hH
  rcases hr with ⟨h0, _⟩ | ⟨blk1, o1, z1, hρ1, hlow, ⟨arr, harr, hsz⟩, hlen, hrow⟩
  · rw [hρ] at h0; cases h0
  rw [hρ] at hρ1
  cases hρ1
  obtain ⟨u, hat, hu⟩ := VRow_get hrow i hi
  rw [getD_any d hi] at hs
  have hat' := hat
  obtain ⟨a1, a2, a3⟩ := hat'
  obtain ⟨u', v1, v2, v3, u1, u2, u3, u4⟩ := stE_spec hs hu a1 a3 hy hk1 hoff
  have hisz : i * sz + sz ≤ es.length * sz := by rw [← Nat.succ_mul]; exact Nat.mul_le_mul_right _ hi
  have hrun : (storeCells ⟨blk, o' + i * sz + off, none⟩ (a.eval y).cells.toList).run P c.w = .ok () (c.w.setRow blk (arr.toList.take (o' + i * sz + off) ++ (a.eval y).cells.toList ++ arr.toList.drop (o' + i * sz + off + k)).toArray) := by
    have := run_storeCells_at (P := P) blk (o' + i * sz + off) e (a.eval y).cells.toList 0 arr c.w harr (by simp [v1]; omega) v3
    simpa [v1] using this
  unfold Oper.wp execOp
  simp only [ho, Instr.storeAt, Instr.sureAddr, hx, storeVar, Sem.run_bind, Sem.run_pure, Result.andThen_ok, run_sizeOf hk]
  rw [if_neg (by simp [v1])]
  simp only [hrun, Result.andThen_ok, Oper.upon_skip]
  have hb' := setRow_heap c.w blk arr (arr.toList.take (o' + i * sz + off) ++ (a.eval y).cells.toList ++ arr.toList.drop (o' + i * sz + off + k)).toArray e (0, 0) harr
  have hcell : ∀ m, m < arr.size → (arr.toList.take (o' + i * sz + off) ++ (a.eval y).cells.toList ++ arr.toList.drop (o' + i * sz + off + k)).toArray[m]? =
      if o' + i * sz + off ≤ m ∧ m < o' + i * sz + off + k then (a.eval y).cells[m - (o' + i * sz + off)]? else arr[m]? := by
    intro m hm
    simp only [List.getElem?_toArray, List.append_assoc, List.getElem?_append, List.length_take, Array.length_toList]
    have hmin : min (o' + i * sz + off) arr.size = o' + i * sz + off := by omega
    rw [hmin]
    by_cases h1 : m < o' + i * sz + off
    · rw [if_pos h1, if_neg (by omega)]; simp [h1]
    · rw [if_neg h1]
      by_cases h2 : m < o' + i * sz + off + k
      · rw [if_pos (by omega), if_pos ⟨by omega, h2⟩]; simp
      · rw [if_neg (by omega), if_neg (by omega), List.getElem?_drop]
        simp
        congr 1
        omega
  obtain ⟨h1, h2⟩ := nxt_put (id := id) (h.put (b := b) (e := e) (sz := sz) d (es := es.set i r) (w' := c.w.setRow blk (arr.toList.take (o' + i * sz + off) ++ (a.eval y).cells.toList ++ arr.toList.drop (o' + i * sz + off + k)).toArray) (blk := blk) (o := o') (z := z) hz
    (.inr ⟨e, d, es, hH, .inl ⟨by simp, hρ⟩⟩) (.inr ⟨_, _, _, hH, hρ⟩) rfl rfl rfl (by simp) (fun k' _ hne => setRow_other c.w blk k' _ hne) hb' (by simp [v1]; omega) (by simpa using hlen) (fun m hm => by
      simp only [List.length_set] at hm
      by_cases hmi : m = i
      · subst hmi
        refine ⟨u', ⟨u1, fun j hj => ?_, u2⟩, by simpa [List.getD, List.getElem?_set, hm] using u3⟩
        rw [cell_of_row _ blk _ _ e (0, 0) hb', hcell _ (by omega), u4 j hj]
        by_cases hin : off ≤ j ∧ j < off + k
        · rw [if_pos (by omega), if_pos hin]
          congr 1
          omega
        · rw [if_neg (by omega), if_neg hin, ← a2 j hj, cell_of_row c.w blk _ arr e (0, 0) harr]
      · obtain ⟨um, ⟨b1, b2, b3⟩, hum⟩ := VRow_get hrow m hm
        have hmsz : m * sz + sz ≤ es.length * sz := by rw [← Nat.succ_mul]; exact Nat.mul_le_mul_right _ hm
        refine ⟨um, ⟨b1, fun j hj => ?_, b3⟩, by simpa [List.getD, List.getElem?_set, Ne.symm hmi] using hum⟩
        have hdis : ¬ (o' + i * sz + off ≤ o' + m * sz + j ∧ o' + m * sz + j < o' + i * sz + off + k) := by
          rcases Nat.lt_or_gt_of_ne hmi with hlt | hgt
          · have : m * sz + sz ≤ i * sz := by rw [← Nat.succ_mul]; exact Nat.mul_le_mul_right _ hlt
            omega
          · have : i * sz + sz ≤ m * sz := by rw [← Nat.succ_mul]; exact Nat.mul_le_mul_right _ hgt
            omega
        rw [cell_of_row _ blk _ _ e (0, 0) hb', hcell _ (by omega), if_neg hdis, ← b2 j hj, cell_of_row c.w blk _ arr e (0, 0) harr])) hU
  have hρeq : upd c.ρ b (some (blk, o', z)) = c.ρ := by
    funext x
    by_cases hxb : x = b
    · subst hxb; simp [hρ]
    · exact upd_ne _ _ hxb
  rw [hρeq] at h1 h2
  exact hK _ _ _ h1 h2 (by rw [VR]; trivial)

end
end Go.Abs
