/- append: onto nothing, onto a row of the call's own. -/
import Derived.Test.YtliabecchkolgaaAbsD
namespace Go.Abs
open Go.RowKit

section
variable {P : Program} {o : Oper} {a : Act} {w0 : World} {c : Cx} {id : Nat}

theorem append_types {t t2 ty e e2 : TypeId} (ht : P.underlying t = some (.slice e)) (ht2 : P.underlying t2 = some (.slice e2)) (args : Array Value) (w : World) :
    (Builtin.append_ #[t, t2] ty args).run P w = (Builtin.append_ #[t, t] ty args).run P w := by
  cases h0 : args[0]? with
  | none => simp [Builtin.append_, h0]
  | some s =>
    cases h1 : args[1]? with
    | none => simp [Builtin.append_, h0, h1]
    | some x => cases s <;> simp [Builtin.append_, h0, h1, run_underlying ht, run_underlying ht2]

/-- The cells of a row, one behind the other. -/
theorem VRow_flat {sz : Nat} : ∀ {es : List AV} {blk off : Nat}, VRow c sz es blk off → ∃ news : List Value, news.length = es.length * sz ∧ (∀ j, j < news.length → c.w.cell? ⟨blk, off + j, none⟩ = news[j]?) ∧ (∀ u ∈ news, u.oneCell' = true) ∧
    ∀ i, i < es.length → ∃ v : Value, v.cells.size = sz ∧ (∀ j, j < sz → news[i * sz + j]? = v.cells[j]?) ∧ (∀ (j : Nat) (x : Value), v.cells[j]? = some x → x.oneCell' = true) ∧ VR c (es.getD i .any) v
  | [], _, _, _ => ⟨[], by simp, by simp, by simp, by simp⟩
  | e :: es, blk, off, h => by
    rw [VRow] at h
    obtain ⟨⟨v, ⟨a1, a2, a3⟩, hv⟩, hr⟩ := h
    obtain ⟨news, n1, n2, n3, n4⟩ := VRow_flat hr
    refine ⟨v.cells.toList ++ news, by simp [n1, a1, Nat.add_mul]; omega, fun j hj => ?_, fun u hu => ?_, fun i hi => ?_⟩
    · rw [List.getElem?_append]
      simp only [Array.length_toList, a1]
      by_cases hj' : j < sz
      · rw [if_pos hj', a2 j hj']; simp
      · rw [if_neg hj', ← n2 (j - sz) (by simp [a1] at hj; omega)]
        congr 2
        omega
    · simp only [List.mem_append] at hu
      rcases hu with hu | hu
      · obtain ⟨j, hj, he⟩ := List.mem_iff_getElem.1 hu
        exact a3 j u (by simp at hj; simp [hj]; simpa using he)
      · exact n3 u hu
    · cases i with
      | zero =>
        refine ⟨v, a1, fun j hj => ?_, a3, by simpa using hv⟩
        rw [List.getElem?_append, if_pos (by simp [a1]; omega)]
        simp
      | succ i =>
        obtain ⟨u, u1, u2, u3, u4⟩ := n4 i (by simpa using hi)
        refine ⟨u, u1, fun j hj => ?_, u3, by simpa using u4⟩
        rw [List.getElem?_append, if_neg (by simp [a1, Nat.add_mul]; omega), ← u2 j hj]
        congr 1
        simp [a1, Nat.add_mul]
        omega

/-- What a slice that is read says of its value. -/
theorem VRow_part {sz : Nat} {es : List AV} {blk off : Nat} (h : VRow c sz es blk off) (lo n : Nat) (hn : lo + n ≤ es.length) : VRow c sz ((es.drop lo).take n) blk (off + lo * sz) := by
  refine VRow_mk fun i hi => ?_
  simp only [List.length_take, List.length_drop] at hi
  obtain ⟨v, h1, h2⟩ := VRow_get h (lo + i) (by omega)
  refine ⟨v, by rw [show off + lo * sz + i * sz = off + (lo + i) * sz by rw [Nat.add_mul]; omega]; exact h1, ?_⟩
  have : ((es.drop lo).take n).getD i .any = es.getD (lo + i) .any := by
    simp only [List.getD, List.getElem?_take, List.getElem?_drop]
    rw [if_pos (by omega)]
  rw [this]; exact h2
theorem elems_spec {H : Hp} {x : AV} {v : Value} {xs : List AV} {sz : Nat} (h : Sim w0 c) (hH : c.H = getH H) (hv : VR c x v) (he : elemsA H x = some xs) (hs : szA H sz x = true) :
    ∃ ad cap, v = .slice ad xs.length cap ∧ (xs = [] ∨ ∃ blk off, ad = some ⟨blk, off, none⟩ ∧ VRow c sz xs blk off) := by
  cases x <;> try simp only [elemsA, reduceCtorEq] at he
  · rename_i u
    split at he
    all_goals first | (simp only [reduceCtorEq] at he; done) | skip
    all_goals rename_i heq
    all_goals first | (cases heq; done) | skip
    all_goals (injection heq with heq; subst heq; simp only [Option.some.injEq] at he; subst he; rw [VR] at hv; subst hv; exact ⟨none, 0, rfl, .inl rfl⟩)
  · simp only [Option.some.injEq] at he
    subst he
    simp only [szA, beq_iff_eq] at hs
    subst hs
    rw [VR] at hv
    obtain ⟨ad, cap, rfl, _, hr⟩ := hv
    refine ⟨ad, cap, rfl, ?_⟩
    rcases hr with h0 | ⟨blk, off, rfl, _, _, hr⟩
    · exact .inl h0
    · exact .inr ⟨blk, off, rfl, hr⟩
  · rename_i b len
    simp only [szA] at hs
    cases hb : getH H b with
    | none => rw [hb] at he; simp at he
    | some k =>
      obtain ⟨e, sz', d, es⟩ := k
      rw [hb] at he hs
      simp only [Option.ite_none_right_eq_some, Option.some.injEq, beq_iff_eq] at he hs
      obtain ⟨hl, rfl⟩ := he
      subst hs
      rw [VR] at hv
      obtain ⟨_, ad, cap, rfl, hr⟩ := hv
      rw [← hH] at hb
      obtain ⟨_, h2⟩ := hr _ _ _ _ hb
      refine ⟨ad, cap, by rw [hl], ?_⟩
      obtain ⟨_, _, hrow⟩ := h.row b _ _ _ _ hb
      rcases hrow with ⟨_, h0⟩ | ⟨blk, off, z, hρ, _, _, _, hrow⟩
      · exact .inl h0
      · rcases h2 hl with ⟨h0, _⟩ | ⟨blk', off', z', hρ', rfl, _⟩
        · rw [hρ] at h0; cases h0
        · rw [hρ] at hρ'; cases hρ'
          exact .inr ⟨blk, off, rfl, hrow⟩
  · simp only [Option.some.injEq] at he
    subst he
    rw [VR] at hv
    obtain ⟨ad, rfl⟩ := hv
    exact ⟨ad, 0, rfl, .inl rfl⟩
  · rename_i b len lo n
    simp only [szA] at hs
    cases hb : getH H b with
    | none => rw [hb] at he; simp at he
    | some k =>
      obtain ⟨e, sz', d, es⟩ := k
      rw [hb] at he hs
      simp only [Option.ite_none_right_eq_some, Option.some.injEq, beq_iff_eq] at he hs
      obtain ⟨hl, rfl⟩ := he
      subst hs
      rw [VR] at hv
      obtain ⟨_, hi, ad, cap, rfl, _, hr⟩ := hv
      rw [← hH] at hb
      obtain ⟨_, h2⟩ := hr _ _ _ _ hb
      have hlen : ((es.drop lo).take n).length = n := by simp; omega
      refine ⟨ad, cap, by rw [hlen], ?_⟩
      obtain ⟨_, _, hrow⟩ := h.row b _ _ _ _ hb
      rcases h2 hl with h0 | ⟨blk', off', z', hρ', rfl⟩
      · subst h0; exact .inl (by simp)
      · rcases hrow with ⟨h0, _⟩ | ⟨blk, off, z, hρ, _, _, _, hrow⟩
        · rw [hρ'] at h0; cases h0
        · rw [hρ] at hρ'; cases hρ'
          exact .inr ⟨_, _, rfl, VRow_part hrow lo n (by omega)⟩

theorem run_append_nil0 {t ty e : TypeId} {i : TypeInfo} (ht : P.underlying t = some (.slice e)) (hi : P.info? e = some i) (ad : Option Addr) (cap : Nat) (w : World) :
    (Builtin.append_ #[t, t] ty #[.slice none 0 0, .slice ad 0 cap]).run P w = .ok (.slice none 0 0) w := by
  cases ad <;> simp [Builtin.append_, run_underlying ht, sizeOf, typeInfo, hi, Builtin.lenOf, Builtin.firstCells, loadCells, loadCellsFrom]

theorem run_append_in {t ty e : TypeId} {i : TypeInfo} (ht : P.underlying t = some (.slice e)) (hi : P.info? e = some i) (w : World)
    (g off sLen sCap : Nat) (cur : Array Value) (hg : w.heap[g]? = some (.cells cur e (0, 0))) (ad : Option Addr) (m k : Nat) (news : List Value) 
    (hf : (Builtin.firstCells i.size m (.slice ad m k)).run P w = .ok news.toArray w) (h1 : ∀ u ∈ news, u.oneCell' = true)
    (hroom : sLen + m ≤ sCap) (hfit : off + sLen * i.size + news.length ≤ cur.size) :
    (Builtin.append_ #[t, t] ty #[.slice (some ⟨g, off, none⟩) sLen sCap, .slice ad m k]).run P w =
      .ok (.slice (some ⟨g, off, none⟩) (sLen + m) sCap) (w.setRow g (cur.toList.take (off + sLen * i.size) ++ news ++ cur.toList.drop (off + sLen * i.size + news.length)).toArray) := by
  have hst := run_storeCells_at (P := P) g (off + sLen * i.size) e news 0 cur w hg (by simpa using hfit) h1
  simp only [Nat.add_zero] at hst
  simp [Builtin.append_, run_underlying ht, sizeOf, typeInfo, hi, Builtin.lenOf, hroom, hf, Addr.add_lit, hst]

theorem goes_append_call {s x : Operand} {t t2 e e2 : TypeId} (ho : o.op = .call { callee := .builtin .append, args := #[s, x], argTypes := #[t, t2] }) (ht : P.underlying t = some (.slice e)) (ht2 : P.underlying t2 = some (.slice e2))
    {v : Value} {W : World} (hr : (Builtin.append_ #[t, t] o.type #[a.eval s, a.eval x]).run P c.w = .ok v W) : (execOp a.eval o).run P c.w = .ok (.value v) W := by
  unfold execOp
  simp only [ho, resolve, invoke, builtin, Sem.run_bind, Sem.run_pure, Result.andThen_ok, List.map_toArray, List.map_cons, List.map_nil, append_types ht ht2, hr]

/-- New cells behind old ones. -/
theorem cells_at {news : List Value} {m sz : Nat} (hl : news.length = m * sz) (i j : Nat) (hi : i < m) (hj : j < sz) (z : Array Value) : (news.toArray ++ z)[i * sz + j]? = news[i * sz + j]? := by
  have : i * sz + sz ≤ m * sz := by rw [← Nat.succ_mul]; exact Nat.mul_le_mul_right _ hi
  rw [Array.getElem?_append, if_pos (by simp; omega)]
  simp

theorem goes_append {H : Hp} {s x : Operand} {t t2 e e2 : TypeId} {i : TypeInfo} {sz : Nat} {ag : Bool} {z : List Value} (ho : o.op = .call { callee := .builtin .append, args := #[s, x], argTypes := #[t, t2] })
    (ht : P.underlying t = some (.slice e)) (ht2 : P.underlying t2 = some (.slice e2)) (hi : P.info? e = some i) (hz : zT P e = some (sz, ag, z)) (hby : 0 < i.bytes)
    (h : Sim w0 c) (hH : c.H = getH H) {xa : AV} {xs : List AV} (hx : VR c xa (a.eval x)) (he : elemsA H xa = some xs) (hsz : szA H sz xa = true) :
    (¬ c.U id → ∀ d, a.eval s = .slice none 0 0 → xs.length * i.bytes ≤ maxB → Goes P o a w0 c id (.sl id xs.length) (upd c.H id (some (.row e sz d xs)))) ∧
    (∀ b len d es, VR c (.sl b len) (a.eval s) → getH H b = some (.row e sz d es) → es.length = len → (len + xs.length) * i.bytes ≤ maxB → Goes P o a w0 c id (.sl b (len + xs.length)) (upd c.H b (some (.row e sz d (es ++ xs))))) := by
  obtain ⟨i', v, hi', hz0, h1, hg, hk', hc, hlz, hpos, hone, hv, hfit⟩ := zT_spec hz
  rw [hi] at hi'
  cases hi'
  obtain ⟨ad, k, hxv, hrow⟩ := elems_spec h hH hx he hsz
  have hvs : v.cells.size = sz := by simp [hc, hlz]
  -- the cells that come behind
  have hnews : ∃ news : List Value, news.length = xs.length * sz ∧ (∀ w : World, w.heap = c.w.heap → (Builtin.firstCells sz xs.length (.slice ad xs.length k)).run P w = .ok news.toArray w) ∧ (∀ u ∈ news, u.oneCell' = true) ∧
      (xs ≠ [] → ∃ adr, ad = some adr ∧ ∀ j u, news[j]? = some u → c.w.cell? (adr.add j) = some u) ∧
      ∀ i, i < xs.length → ∃ v : Value, v.cells.size = sz ∧ (∀ j, j < sz → news[i * sz + j]? = v.cells[j]?) ∧ (∀ (j : Nat) (x : Value), v.cells[j]? = some x → x.oneCell' = true) ∧ VR c (xs.getD i .any) v := by
    rcases hrow with rfl | ⟨blk, off, rfl, hr⟩
    · refine ⟨[], by simp, fun w _ => ?_, by simp, fun h => absurd rfl h, by simp⟩
      cases ad <;> simp [Builtin.firstCells, loadCells, loadCellsFrom]
    · obtain ⟨news, n1, n2, n3, n4⟩ := VRow_flat hr
      have hcell : ∀ j u, news[j]? = some u → c.w.cell? ((⟨blk, off, none⟩ : Addr).add j) = some u := by
        intro j u hu
        rw [Addr.add_lit, n2 j (List.getElem?_eq_some_iff.1 hu).1, hu]
      refine ⟨news, n1, fun w hw => ?_, n3, fun _ => ⟨_, rfl, hcell⟩, n4⟩
      refine run_firstCells_some w sz xs.length _ _ _ news n1 fun j u hu => ?_
      rw [← hcell j u hu]
      exact World.cell?_of_block (by rw [hw])
  obtain ⟨news, n1, n2, n3, n4, n5⟩ := hnews
  have hcall : ∀ {r : Value} {W : World}, (Builtin.append_ #[t, t] o.type #[a.eval s, .slice ad xs.length k]).run P c.w = .ok r W → (execOp a.eval o).run P c.w = .ok (.value r) W :=
    fun hr => goes_append_call ho ht ht2 (by rw [hxv]; exact hr)
  have hlenle : ∀ n : Nat, n * i.bytes ≤ maxB → n ≤ 140737488355328 := fun n hn => Nat.le_trans (Nat.le_mul_of_pos_right n hby) hn
  constructor
  · intro hid d hs hb
    have hle := hlenle _ hb
    by_cases h0 : xs = []
    · subst h0
      intro K Q hK
      unfold Oper.wp
      rw [hcall (r := .slice none 0 0) (W := c.w) (by rw [hs]; exact run_append_nil0 ht hi ad k c.w), Oper.upon_value]
      obtain ⟨p1, p2⟩ := h.put0 (b := id) (e := e) (sz := sz) d hpos hid
      refine hK _ _ _ p1 p2 ?_
      rw [VR]
      refine ⟨.inr rfl, none, 0, rfl, fun e' sz' d' es he => ?_⟩
      simp only [nxt, upd_same, Option.some.injEq, Blk.row.injEq] at he
      obtain ⟨rfl, rfl, rfl, rfl⟩ := he
      exact ⟨Nat.le_refl _, fun _ => .inl ⟨by simp [nxt], rfl, rfl⟩⟩
    · obtain ⟨adr, rfl, hcell⟩ := n4 h0
      have hpos' : 0 < xs.length := List.length_pos_iff.2 h0
      have hr := run_append_nil (P := P) c.w t o.type e i v ht hi hz0 adr xs.length k news (by rw [h1]; exact n1) hcell hpos' (by omega) (by unfold maxB at hb; omega)
      have hge := grownCap_ge c.w xs.length 0 e
      have harr : (news.toArray ++ Builtin.zeroCells v.cells (grownCap c.w xs.length 0 e - xs.length)).size = grownCap c.w xs.length 0 e * sz := by
        simp only [Array.size_append, List.size_toArray, size_zeroCells, hvs, n1, ← Nat.add_mul]
        congr 1
        omega
      refine goes_new d (es := xs) (v := .slice (some ⟨c.w.heap.size, 0, none⟩) xs.length (grownCap c.w xs.length 0 e)) h hid hpos (W := c.w.drew.alloc (.cells (news.toArray ++ Builtin.zeroCells v.cells (grownCap c.w xs.length 0 e - xs.length)) e)) rfl rfl rfl rfl (hcall (by rw [hs]; exact hr)) ?_ ?_ ?_
      · rw [harr]; exact Nat.mul_le_mul_right _ hge
      · intro m hm
        obtain ⟨u, u1, u2, u3, u4⟩ := n5 m hm
        exact ⟨u, u1, fun j hj => (cells_at n1 m j hm hj _).trans (u2 j hj), u3, u4⟩
      · intro c' hU hρ hHid
        rw [VR]
        refine ⟨hU, _, _, rfl, fun e' sz' d' es he => ?_⟩
        rw [hHid] at he
        simp only [Option.some.injEq, Blk.row.injEq] at he
        obtain ⟨rfl, rfl, rfl, rfl⟩ := he
        exact ⟨Nat.le_refl _, fun _ => .inr ⟨_, _, _, hρ, rfl, hge, by rw [harr]; exact Nat.le_refl _, grownCap_le_maxLen _ _ _ _ (by unfold maxLen; omega)⟩⟩
  · intro b len d es hsv hHb hl hb
    have hle := hlenle _ hb
    rw [← hH] at hHb
    obtain ⟨hU, _, hrw⟩ := h.row b _ _ _ _ hHb
    rw [VR] at hsv
    obtain ⟨_, ads, cap, hsv, hliv⟩ := hsv
    obtain ⟨_, hliv⟩ := hliv _ _ _ _ hHb
    have hliv := hliv hl
    by_cases h0 : xs = []
    · subst h0
      have hsame : upd c.H b (some (.row e sz d (es ++ []))) = c.H := by
        funext y
        by_cases hy : y = b
        · subst hy; simp [hHb]
        · exact upd_ne _ _ hy
      rw [hsame]
      have hvr : VR c (.sl b (len + ([] : List AV).length)) (a.eval s) := by
        rw [VR]
        refine ⟨hU, ads, cap, by simpa using hsv, fun e' sz' d' es' he' => ?_⟩
        rw [hHb] at he'
        simp only [Option.some.injEq, Blk.row.injEq] at he'
        obtain ⟨rfl, rfl, rfl, rfl⟩ := he'
        exact ⟨by simp [hl], fun _ => by simpa using hliv⟩
      rcases hliv with ⟨hρ0, rfl, rfl⟩ | ⟨blk, off, z', hρ, rfl, hcap, hcz, hcm⟩
      · rcases hrw with ⟨_, hes⟩ | ⟨_, _, _, hρ', _⟩
        · subst hes
          simp only [List.length_nil] at hl
          subst hl
          refine goes_value h (hcall (r := .slice none 0 0) (by rw [hsv]; exact run_append_nil0 ht hi ad k c.w)) ?_
          rw [hsv] at hvr
          exact hvr
        · rw [hρ0] at hρ'; cases hρ'
      · rcases hrw with ⟨hρ', _⟩ | ⟨blk1, off1, z1, hρ1, hlow, ⟨arr, harr, hsz'⟩, hlen, hrow'⟩
        · rw [hρ] at hρ'; cases hρ'
        rw [hρ] at hρ1; cases hρ1
        have hn0 : news = [] := List.eq_nil_of_length_eq_zero (by simp [n1])
        subst hn0
        have hr := run_append_in (P := P) (ty := o.type) ht hi c.w blk off len cap arr harr ad 0 k [] (by simpa [h1] using n2 c.w rfl) (by simp) (by simpa using hcap) (by rw [h1]; simp; rw [← hl]; omega)
        simp only [List.append_nil, List.length_nil, Nat.add_zero, List.take_append_drop, Array.toArray_toList] at hr
        rw [setRow_self c.w blk arr e (0, 0) harr] at hr
        refine goes_value h (hcall (r := .slice (some ⟨blk, off, none⟩) len cap) (by rw [hsv]; exact hr)) ?_
        rw [hsv] at hvr
        exact hvr
    · obtain ⟨adr, rfl, hcell⟩ := n4 h0
      have hpos' : 0 < xs.length := List.length_pos_iff.2 h0
      -- the row laid anew
      have anew : ∀ (olds : List Value) (old : Nat), old < len + xs.length → olds.length = len * sz → (∀ m, m < es.length → ∃ u : Value, u.cells.size = sz ∧ (∀ j, j < sz → olds[m * sz + j]? = u.cells[j]?) ∧ (∀ (j : Nat) (x : Value), u.cells[j]? = some x → x.oneCell' = true) ∧ VR c (es.getD m .any) u) →
          (Builtin.append_ #[t, t] o.type #[a.eval s, .slice (some adr) xs.length k]).run P c.w = .ok (.slice (some ⟨c.w.heap.size, 0, none⟩) (len + xs.length) (grownCap c.w (len + xs.length) old e)) (c.w.drew.alloc (.cells (olds.toArray ++ news.toArray ++ Builtin.zeroCells v.cells (grownCap c.w (len + xs.length) old e - (len + xs.length))) e)) →
          Goes P o a w0 c id (.sl b (len + xs.length)) (upd c.H b (some (.row e sz d (es ++ xs)))) := by
        intro olds old hold hol hoc hr K Q hK
        unfold Oper.wp
        rw [hcall hr, Oper.upon_value]
        have hge := grownCap_ge c.w (len + xs.length) old e
        have harr : (olds.toArray ++ news.toArray ++ Builtin.zeroCells v.cells (grownCap c.w (len + xs.length) old e - (len + xs.length))).size = grownCap c.w (len + xs.length) old e * sz := by
          simp only [Array.size_append, List.size_toArray, size_zeroCells, hvs, n1, hol, ← Nat.add_mul]
          congr 1
          omega
        have hblk : (c.w.drew.alloc (.cells (olds.toArray ++ news.toArray ++ Builtin.zeroCells v.cells (grownCap c.w (len + xs.length) old e - (len + xs.length))) e)).heap[c.w.heap.size]? = some (.cells (olds.toArray ++ news.toArray ++ Builtin.zeroCells v.cells (grownCap c.w (len + xs.length) old e - (len + xs.length))) e) := heap_alloc_new c.w.drew (.cells (olds.toArray ++ news.toArray ++ Builtin.zeroCells v.cells (grownCap c.w (len + xs.length) old e - (len + xs.length))) e)
        obtain ⟨p1, p2⟩ := nxt_put (id := id) (h.put (b := b) (e := e) (sz := sz) d (es := es ++ xs) (w' := c.w.drew.alloc (.cells (olds.toArray ++ news.toArray ++ Builtin.zeroCells v.cells (grownCap c.w (len + xs.length) old e - (len + xs.length))) e)) (blk := c.w.heap.size) (o := 0) (z := grownCap c.w (len + xs.length) old e * sz) hpos
          (.inr ⟨_, _, _, hHb, .inr (by simp; omega)⟩) (.inl rfl) rfl rfl rfl (by simp) (fun m hm _ => heap_alloc_old c.w.drew _ m hm) hblk (by rw [harr]; simp) (by rw [List.length_append, hl]; exact Nat.mul_le_mul_right _ hge) (fun m hm => by
            simp only [List.length_append] at hm
            by_cases hme : m < es.length
            · obtain ⟨u, u1, u2, u3, u4⟩ := hoc m hme
              have hb2 : m * sz + sz ≤ len * sz := by rw [← Nat.succ_mul, ← hl]; exact Nat.mul_le_mul_right _ hme
              refine ⟨u, ⟨u1, fun j hj => ?_, u3⟩, by simpa [List.getD, List.getElem?_append, hme] using u4⟩
              rw [cell_of_row _ _ _ _ e (0, 0) hblk, ← u2 j hj]
              simp only [Nat.zero_add]
              rw [Array.append_assoc, Array.getElem?_append, if_pos (by simp [hol]; omega)]
              simp
            · obtain ⟨u, u1, u2, u3, u4⟩ := n5 (m - es.length) (by omega)
              have hb2 : (m - es.length) * sz + sz ≤ xs.length * sz := by rw [← Nat.succ_mul]; exact Nat.mul_le_mul_right _ (by omega)
              have hb3 : m * sz = len * sz + (m - es.length) * sz := by rw [← Nat.add_mul, ← hl]; congr 1; omega
              refine ⟨u, ⟨u1, fun j hj => ?_, u3⟩, by simpa [List.getD, List.getElem?_append, hme] using u4⟩
              rw [cell_of_row _ _ _ _ e (0, 0) hblk, ← u2 j hj]
              simp only [Nat.zero_add]
              rw [Array.append_assoc, Array.getElem?_append, if_neg (by simp [hol]; omega), Array.getElem?_append, if_pos (by simp [hol, n1]; omega)]
              simp [hol]
              congr 1
              omega)) hU
        refine hK _ _ _ p1 p2 ?_
        rw [VR]
        refine ⟨.inl hU, _, _, rfl, fun e' sz' d' es' he' => ?_⟩
        simp only [nxt, upd_same, Option.some.injEq, Blk.row.injEq] at he'
        obtain ⟨rfl, rfl, rfl, rfl⟩ := he'
        exact ⟨by simp [hl], fun _ => .inr ⟨_, _, _, by simp [nxt], rfl, hge, Nat.le_refl _, grownCap_le_maxLen _ _ _ _ (by unfold maxLen; omega)⟩⟩
      rcases hliv with ⟨hρ0, rfl, rfl⟩ | ⟨blk, off, z', hρ, rfl, hcap, hcz, hcm⟩
      · rcases hrw with ⟨_, hes⟩ | ⟨_, _, _, hρ', _⟩
        · subst hes
          simp only [List.length_nil] at hl
          subst hl
          simp only [Nat.zero_add] at anew hb hle ⊢
          have hr := run_append_nil (P := P) c.w t o.type e i v ht hi hz0 adr xs.length k news (by rw [h1]; exact n1) hcell hpos' (by omega) (by unfold maxB at hb; omega)
          exact anew [] 0 hpos' (by simp) (by simp) (by rw [hsv]; simpa using hr)
        · rw [hρ0] at hρ'; cases hρ'
      · rcases hrw with ⟨hρ', _⟩ | ⟨blk1, off1, z1, hρ1, hlow, ⟨arr, harr, hsz'⟩, hlen, hrow'⟩
        · rw [hρ] at hρ'; cases hρ'
        rw [hρ] at hρ1; cases hρ1
        by_cases hroom : len + xs.length ≤ cap
        · have hfit2 : len * sz + news.length ≤ z' := by
            rw [n1, ← Nat.add_mul]; exact Nat.le_trans (Nat.mul_le_mul_right _ hroom) hcz
          have hr := run_append_in (P := P) (ty := o.type) ht hi c.w blk off len cap arr harr (some adr) xs.length k news (by simpa [h1] using n2 c.w rfl) n3 hroom (by rw [h1]; omega)
          rw [h1] at hr
          intro K Q hK
          unfold Oper.wp
          rw [hcall (by rw [hsv]; exact hr), Oper.upon_value]
          have hblk := setRow_heap c.w blk arr (arr.toList.take (off + len * sz) ++ news ++ arr.toList.drop (off + len * sz + news.length)).toArray e (0, 0) harr
          have hcellm : ∀ m, (arr.toList.take (off + len * sz) ++ news ++ arr.toList.drop (off + len * sz + news.length)).toArray[m]? =
              if off + len * sz ≤ m ∧ m < off + len * sz + news.length then news[m - (off + len * sz)]? else arr[m]? := by
            intro m
            simp only [List.getElem?_toArray, List.append_assoc, List.getElem?_append, List.length_take, Array.length_toList]
            have hmin : min (off + len * sz) arr.size = off + len * sz := by omega
            rw [hmin]
            by_cases q1 : m < off + len * sz
            · rw [if_pos q1, if_neg (by omega)]; simp [q1]
            · rw [if_neg q1]
              by_cases q2 : m < off + len * sz + news.length
              · rw [if_pos (by omega), if_pos ⟨by omega, q2⟩]
              · rw [if_neg (by omega), if_neg (by omega), List.getElem?_drop]
                simp
                congr 1
                omega
          obtain ⟨p1, p2⟩ := nxt_put (id := id) (h.put (b := b) (e := e) (sz := sz) d (es := es ++ xs) (w' := c.w.setRow blk (arr.toList.take (off + len * sz) ++ news ++ arr.toList.drop (off + len * sz + news.length)).toArray) (blk := blk) (o := off) (z := z') hpos
            (.inr ⟨_, _, _, hHb, .inr (by simp; omega)⟩) (.inr ⟨_, _, _, hHb, hρ⟩) rfl rfl rfl (by simp) (fun m _ hne => setRow_other c.w blk m _ hne) hblk (by simp; omega) (by rw [List.length_append, Nat.add_mul, hl, ← n1]; exact hfit2) (fun m hm => by
              simp only [List.length_append] at hm
              by_cases hme : m < es.length
              · obtain ⟨u, ⟨u1, u2, u3⟩, u4⟩ := VRow_get hrow' m hme
                have hb2 : m * sz + sz ≤ len * sz := by rw [← Nat.succ_mul, ← hl]; exact Nat.mul_le_mul_right _ hme
                refine ⟨u, ⟨u1, fun j hj => ?_, u3⟩, by simpa [List.getD, List.getElem?_append, hme] using u4⟩
                rw [cell_of_row _ _ _ _ e (0, 0) hblk, hcellm, if_neg (by omega), ← u2 j hj, cell_of_row c.w blk _ arr e (0, 0) harr]
              · obtain ⟨u, u1, u2, u3, u4⟩ := n5 (m - es.length) (by omega)
                have hb2 : (m - es.length) * sz + sz ≤ xs.length * sz := by rw [← Nat.succ_mul]; exact Nat.mul_le_mul_right _ (by omega)
                have hb3 : m * sz = len * sz + (m - es.length) * sz := by rw [← Nat.add_mul, ← hl]; congr 1; omega
                refine ⟨u, ⟨u1, fun j hj => ?_, u3⟩, by simpa [List.getD, List.getElem?_append, hme] using u4⟩
                rw [cell_of_row _ _ _ _ e (0, 0) hblk, hcellm, if_pos (by omega), ← u2 j hj]
                congr 1
                omega)) hU
          refine hK _ _ _ p1 p2 ?_
          rw [VR]
          refine ⟨.inl hU, _, _, rfl, fun e' sz'' d' es' he' => ?_⟩
          simp only [nxt, upd_same, Option.some.injEq, Blk.row.injEq] at he'
          obtain ⟨rfl, rfl, rfl, rfl⟩ := he'
          exact ⟨by simp [hl], fun _ => .inr ⟨_, _, _, by simp [nxt], rfl, hroom, hcz, hcm⟩⟩
        · obtain ⟨olds, q1, q2, q3, q4⟩ := VRow_flat hrow'
          have holds : ∀ j u, olds[j]? = some u → c.w.cell? ((⟨blk, off, none⟩ : Addr).add j) = some u := by
            intro j u hu
            rw [Addr.add_lit, q2 j (List.getElem?_eq_some_iff.1 hu).1, hu]
          have hr := run_append_grow (P := P) c.w t o.type e i v ht hi hz0 ⟨blk, off, none⟩ len cap olds (by rw [h1, ← hl]; exact q1) holds adr xs.length k news (by rw [h1]; exact n1) hcell (by omega) (by omega) (growslice_fits (by omega) hb)
          exact anew olds cap (by omega) (by rw [← hl]; exact q1) (fun m hm => by
            obtain ⟨u, u1, u2, u3, u4⟩ := q4 m hm
            exact ⟨u, u1, u2, u3, u4⟩) (by rw [hsv]; exact hr)
end
end Go.Abs
