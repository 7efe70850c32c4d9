/- The lists of writers. -/
import Derived.Test.YtncllkpekbapjaaOb
namespace Go.Proofs.Ytncllkpekbapjaa
open Go Go.Abs Go.Proofs
set_option linter.unusedSimpArgs false
set_option linter.unusedVariables false
def seenE (P : List Int) : List AV := P.map fun v => ent (.int .i64 v) (i64 1)
theorem mfind_seen (k : Int) : ∀ (P : List Int) (i : Nat), k ∉ P → mfind false (.int .i64 k) (seenE P) i = some none
  | [], _, _ => rfl
  | v :: P, i, h => by
    simp only [List.mem_cons, not_or] at h
    have ih := mfind_seen k P (i + 1) h.2
    simp only [seenE, List.map_cons, mfind, ent, entA, keq, if_true, h.1, decide_false] at ih ⊢
    exact ih
theorem mfind_seen' (k : Int) : ∀ (P : List Int) (i : Nat), k ∈ P → ∃ j, mfind false (.int .i64 k) (seenE P) i = some (some (j, i64 1))
  | v :: P, i, h => by
    by_cases hv : k = v
    · subst hv
      exact ⟨i, by simp [seenE, mfind, ent, entA, keq]⟩
    · obtain ⟨j, hj⟩ := mfind_seen' k P (i + 1) (by simpa [hv] using h)
      refine ⟨j, ?_⟩
      simp only [seenE, List.map_cons, mfind, ent, entA, keq, if_true, hv, decide_false] at hj ⊢
      exact hj
theorem mget_seen (P : List Int) (k : Int) : mget false (.int .i64 k) (seenE P) (i64 0) = some (i64 (if k ∈ P then 1 else 0), decide (k ∈ P)) := by
  unfold mget
  by_cases h : k ∈ P
  · obtain ⟨j, hj⟩ := mfind_seen' k P 0 h
    rw [hj]; simp [h]
  · rw [mfind_seen k P 0 h]; simp [h]
theorem mput_seen (P : List Int) (k : Int) (h : k ∉ P) : mput false (.int .i64 k) (seenE P) (i64 1) = some (seenE (P ++ [k])) := by
  unfold mput
  rw [mfind_seen k P 0 h]
  simp [seenE, ent]
def afOk (x : Exec) (t : Nat) (k : Int) : Bool := decide (0 ≤ k) && decide (k < x.events.length) && (x.ev k.toNat).wr && decide ((x.ev k.toNat).thing = t)
def pre (x : Exec) (t j : Nat) : List Int := (x.after.take t).flatten ++ (x.after.getD t []).take j
def Exec.wrs (x : Exec) : Nat := x.events.countP Deed.wr
def aftOk (x : Exec) : Prop := (∀ t, t < x.after.length → ∀ k ∈ (x.after.getD t []), afOk x t k = true) ∧ x.after.flatten.Nodup ∧ x.after.flatten.length = x.wrs
instance (x : Exec) : Decidable (aftOk x) := by
  unfold aftOk
  exact inferInstance
theorem mget_new {P : List Int} {k : Int} (h : k ∉ P) : mget false (.int .i64 k) (seenE P) (i64 0) = some (i64 0, false) := by
  rw [mget_seen]; simp [h]
theorem flatten_take_succ {l : List (List Int)} {t : Nat} (h : t < l.length) : (l.take (t + 1)).flatten = (l.take t).flatten ++ l.getD t [] := by
  rw [List.take_succ_eq_append_getElem h, List.flatten_append]
  simp [List.getD, h]
theorem getD_el {α : Type} {l : List α} {j : Nat} (d : α) (h : j < l.length) : l[j] = l.getD j d := by simp [List.getD, h]
theorem pre_next {x : Exec} {t : Nat} (h : t < x.after.length) : pre x (t + 1) 0 = pre x t (x.after.getD t []).length := by
  simp [pre, flatten_take_succ h]
theorem pre_succ {x : Exec} {t j : Nat} (h : j < (x.after.getD t []).length) : pre x t (j + 1) = pre x t j ++ [(x.after.getD t []).getD j 0] := by
  simp only [pre, List.append_assoc]
  rw [List.take_succ_eq_append_getElem h, getD_el 0 h]
theorem nodup_lt {n : Nat} : ∀ {l : List Int}, l.Nodup → (∀ k ∈ l, 0 ≤ k ∧ k < n) → l.length ≤ n := by
  induction n with
  | zero =>
    intro l _ h
    cases l with
    | nil => simp
    | cons a l => have := h a (by simp); omega
  | succ n ih =>
    intro l hn h
    by_cases hm : (n : Int) ∈ l
    · have h1 : (l.erase n).length + 1 = l.length := by
        rw [List.length_erase_of_mem hm]
        have := List.length_pos_of_mem hm
        omega
      have h2 := ih (l := l.erase n) (hn.erase _) (fun k hk => by
        have := (List.Nodup.mem_erase_iff hn).1 hk
        have := h k this.2
        omega)
      omega
    · have := ih hn (fun k hk => by
        have h3 := h k hk
        have : k ≠ n := fun e => hm (e ▸ hk)
        omega)
      omega
theorem pre_lt {x : Exec} {t j : Nat} (hall : ∀ t', t' < t → ∀ k ∈ x.after.getD t' [], afOk x t' k = true) (hj : ∀ k ∈ (x.after.getD t []).take j, afOk x t k = true) (hn : (pre x t j).Nodup) : (pre x t j).length ≤ x.events.length := by
  refine nodup_lt hn fun k hk => ?_
  have : ∃ t', afOk x t' k = true := by
    simp only [pre, List.mem_append, List.mem_flatten] at hk
    rcases hk with ⟨l, h1, h2⟩ | hk
    · obtain ⟨i, hi, rfl⟩ := List.mem_take_iff_getElem.1 h1
      refine ⟨i, hall i (by omega) k ?_⟩
      simp only [List.getD]
      rw [List.getElem?_eq_getElem (by omega)]
      exact h2
    · exact ⟨t, hj k hk⟩
  obtain ⟨t', h⟩ := this
  simp only [afOk, Bool.and_eq_true, decide_eq_true_eq] at h
  omega
theorem lt_ite {p : Prop} [Decidable p] : ((0 : Int) < if p then 1 else 0) ↔ p := by by_cases h : p <;> simp [h]
theorem flatten_split {x : Exec} {t j : Nat} (ht : t < x.after.length) : x.after.flatten = pre x t j ++ ((x.after.getD t []).drop j ++ (x.after.drop (t + 1)).flatten) := by
  have h1 : x.after = x.after.take t ++ (x.after.getD t []) :: x.after.drop (t + 1) := by
    have : (x.after.getD t []) = x.after[t] := by simp [List.getD, ht]
    rw [this, List.getElem_cons_drop]
    exact (List.take_append_drop t x.after).symm
  conv => lhs; rw [h1]
  simp only [List.flatten_append, List.flatten_cons, pre, List.append_assoc]
  rw [← List.append_assoc ((x.after.getD t []).take j), List.take_append_drop]
theorem getD_mem' {α : Type} {l : List α} {j : Nat} (d : α) (h : j < l.length) : l.getD j d ∈ l := by
  simp only [List.getD, List.getElem?_eq_getElem h, Option.getD_some]; exact List.getElem_mem h
theorem not_aft {x : Exec} {t j : Nat} (ht : t < x.after.length) (hj : j < (x.after.getD t []).length) (h : afOk x t ((x.after.getD t []).getD j 0) = false ∨ (x.after.getD t []).getD j 0 ∈ pre x t j) : ¬ aftOk x := by
  rintro ⟨h1, h2, _⟩
  rcases h with h | h
  · have := h1 t ht _ (getD_mem' 0 hj)
    rw [this] at h; cases h
  · rw [flatten_split (j := j) ht, List.nodup_append] at h2
    refine h2.2.2 _ h _ ?_ rfl
    rw [List.drop_eq_getElem_cons hj, getD_el 0 hj, List.cons_append]
    exact List.mem_cons_self
theorem mem_take_succ {l : List Int} {j : Nat} (hj : j < l.length) {k : Int} : k ∈ l.take (j + 1) ↔ k ∈ l.take j ∨ k = l.getD j 0 := by
  rw [List.take_succ_eq_append_getElem hj, List.mem_append, List.mem_singleton, getD_el 0 hj]
theorem wrs_take {x : Exec} {i : Nat} (hi : i < x.events.length) : (x.events.take (i + 1)).countP Deed.wr = (x.events.take i).countP Deed.wr + if (x.ev i).wr = true then 1 else 0 := by
  rw [List.take_succ_eq_append_getElem hi, List.countP_append, List.countP_cons, List.countP_nil, Exec.ev, List.getD_eq_getElem?_getD, List.getElem?_eq_getElem hi, Option.getD_some]
  simp
set_option maxHeartbeats 4000000 in
theorem after_pure (x : Exec) (hx : x.Wf) (hn : x.events.length ≤ 64) : Pure Try.prog 29 [x.av] (fun r => r = bl (decide (aftOk x))) := by
  refine Go.pure Try.func29 nm29 low29 res29 nt29 rfl ?_
  have ha := hx.afterlen
  have hal : ∀ t, t < x.after.length → (x.after.getD t []).length * 8 ≤ 140737488351232 := fun t ht => (hx.after (x.after.getD t []) (by simp only [List.getD, List.getElem?_eq_getElem ht, Option.getD_some]; exact List.getElem_mem ht)).2
  repeat' (first | ((with_reducible refine Go.red ?_); conv => whnf) | with_reducible (first | refine Go.and ?_ ?_ | exact True.intro | refine Go.far ?_ | exact Go.askRep | refine Go.unroll ?_ | refine Go.drawn ?_) | ((with_reducible refine Apt.mk ?_); (try dsimp only); omega) | ((with_reducible refine Ask.mk ?_); first | exact aAsk | exact aAsk2 | (intro h; simp_all [Exec.cells, Deed.cells] <;> fail) | (simp_all [Exec.cells, Deed.cells] <;> fail)) | ((with_reducible refine Go.ari64 ?_ ?_ ?_); (· exact aBnd); (· exact aBnd)) | ((with_reducible refine Go.ariu8 ?_ ?_ ?_); (· exact aBnd); (· exact aBnd)) | (with_reducible refine Go.ari0 ?_) | (apply Go.elem; (· (first | exact ev_get | exact int_get | exact lst_get | exact aElem))) | (apply Go.row; (· exact aRow)) | (apply Go.map; (· exact aRow)) | (apply Go.gives; (· exact aGives)) | (apply Go.gives; (· exact aRes)) | ((with_reducible refine Go.callW (reads_pure _) ?_ ?_); (· exact aFit)) | ((with_reducible refine Go.callJ (fun _ => reads_pure _) ?_ ?_); (· exact aFit)) | ((with_reducible refine Go.callE (reads_pure _) ?_ ?_); (· exact aFit)) | ((with_reducible refine Go.callF (fun _ => reads_pure _) ?_ ?_); (· exact aFit)) | ((with_reducible refine Go.callW (writes_pure _) ?_ ?_); (· exact aFit)) | ((with_reducible refine Go.callJ (fun _ => writes_pure _) ?_ ?_); (· exact aFit)) | ((with_reducible refine Go.callE (writes_pure _) ?_ ?_); (· exact aFit)) | ((with_reducible refine Go.callF (fun _ => writes_pure _) ?_ ?_); (· exact aFit)) | (refine Go.gt rfl ?_) | (refine Go.gf rfl ?_) | (with_reducible refine Go.join ?_) | (refine Go.lt' rfl ?_) | (refine Go.lf' rfl ?_) | ((with_reducible refine Go.bool ?_ ?_) <;> intro hc <;> (try simp only [List.length_map, ne_eq, hcs] at hc) <;> try (exfalso; omega)) | ((with_reducible refine Res.eq ?_ ?_); (· exact aFit)))
  refine Go.loop (fun t : Nat => [(1, .pt 0 1 0 0), (2, bl false), (3, i64 (pre x t 0).length), (4, .mp 3), (13, .im 1 (imI []) (x.after.map imI)), (14, i64 x.after.length), (15, i64 t)])
    (fun t H n => t ≤ x.after.length ∧ 4 ≤ n ∧ getH H 0 = some (.row 27 4 .any [x.av]) ∧ getH H 3 = some (.row 3 0 .any (mapA (seenE (pre x t 0)))) ∧ (∀ t', t' < t → ∀ k ∈ x.after.getD t' [], afOk x t' k = true) ∧ (pre x t 0).Nodup) (fun t => x.after.length - t) 0 aLess ⟨Nat.zero_le _, aNx, aRow, aRow, fun _ h => by omega, by simp [pre]⟩ ?_
  rintro t H n ⟨ht, hn4, r0, r3, hall, hnd⟩
  repeat' (first | ((with_reducible refine Go.red ?_); conv => whnf) | with_reducible (first | refine Go.and ?_ ?_ | exact True.intro | refine Go.far ?_ | exact Go.askRep | refine Go.unroll ?_ | refine Go.drawn ?_) | ((with_reducible refine Apt.mk ?_); (try dsimp only); omega) | ((with_reducible refine Ask.mk ?_); first | exact aAsk | exact aAsk2 | (intro h; simp_all [Exec.cells, Deed.cells] <;> fail) | (simp_all [Exec.cells, Deed.cells] <;> fail)) | ((with_reducible refine Go.ari64 ?_ ?_ ?_); (· exact aBnd); (· exact aBnd)) | ((with_reducible refine Go.ariu8 ?_ ?_ ?_); (· exact aBnd); (· exact aBnd)) | (with_reducible refine Go.ari0 ?_) | (apply Go.elem; (· (first | exact ev_get | exact int_get | exact lst_get | exact aElem))) | (apply Go.row; (· exact aRow)) | (apply Go.map; (· exact aRow)) | (apply Go.gives; (· exact aGives)) | (apply Go.gives; (· exact aRes)) | ((with_reducible refine Go.callW (reads_pure _) ?_ ?_); (· exact aFit)) | ((with_reducible refine Go.callJ (fun _ => reads_pure _) ?_ ?_); (· exact aFit)) | ((with_reducible refine Go.callE (reads_pure _) ?_ ?_); (· exact aFit)) | ((with_reducible refine Go.callF (fun _ => reads_pure _) ?_ ?_); (· exact aFit)) | ((with_reducible refine Go.callW (writes_pure _) ?_ ?_); (· exact aFit)) | ((with_reducible refine Go.callJ (fun _ => writes_pure _) ?_ ?_); (· exact aFit)) | ((with_reducible refine Go.callE (writes_pure _) ?_ ?_); (· exact aFit)) | ((with_reducible refine Go.callF (fun _ => writes_pure _) ?_ ?_); (· exact aFit)) | (refine Go.gt rfl ?_) | (refine Go.gf rfl ?_) | (with_reducible refine Go.join ?_) | (refine Go.lt' rfl ?_) | (refine Go.lf' rfl ?_) | ((with_reducible refine Go.bool ?_ ?_) <;> intro hc <;> (try simp only [List.length_map, ne_eq, hcs] at hc) <;> try (exfalso; omega)) | ((with_reducible refine Res.eq ?_ ?_); (· exact aFit)))
  · have hlt := hal t (by omega)
    refine Go.loop (fun j : Nat => [(1, .pt 0 1 0 0), (2, bl false), (3, i64 (pre x t j).length), (4, .mp 3), (5, i64 t), (13, .im 1 (imI []) (x.after.map imI)), (14, i64 x.after.length), (15, i64 t), (20, imI (x.after.getD t [])), (21, i64 (x.after.getD t []).length), (22, i64 j)])
      (fun j H n => j ≤ (x.after.getD t []).length ∧ 4 ≤ n ∧ getH H 0 = some (.row 27 4 .any [x.av]) ∧ getH H 3 = some (.row 3 0 .any (mapA (seenE (pre x t j)))) ∧ (∀ k ∈ (x.after.getD t []).take j, afOk x t k = true) ∧ (pre x t j).Nodup) (fun j => (x.after.getD t []).length - j) 0 aLess ⟨Nat.zero_le _, aNx, aRow, aRow, by simp, hnd⟩ ?_
    rintro j H n ⟨hj, hn5, r0, r3, hjall, hjnd⟩
    have hcount := pre_lt hall hjall hjnd
    repeat' (first | ((with_reducible refine Go.red ?_); conv => whnf) | with_reducible (first | refine Go.and ?_ ?_ | exact True.intro | refine Go.far ?_ | exact Go.askRep | refine Go.unroll ?_ | refine Go.drawn ?_) | ((with_reducible refine Apt.mk ?_); (try dsimp only); omega) | ((with_reducible refine Ask.mk ?_); first | exact aAsk | exact aAsk2 | (intro h; simp_all [Exec.cells, Deed.cells] <;> fail) | (simp_all [Exec.cells, Deed.cells] <;> fail)) | ((with_reducible refine Go.ari64 ?_ ?_ ?_); (· exact aBnd); (· exact aBnd)) | ((with_reducible refine Go.ariu8 ?_ ?_ ?_); (· exact aBnd); (· exact aBnd)) | (with_reducible refine Go.ari0 ?_) | (apply Go.elem; (· (first | exact ev_get | exact int_get | exact lst_get | exact aElem))) | (apply Go.row; (· exact aRow)) | (apply Go.map; (· exact aRow)) | (apply Go.gives; (· exact aGives)) | (apply Go.gives; (· exact aRes)) | ((with_reducible refine Go.callW (reads_pure _) ?_ ?_); (· exact aFit)) | ((with_reducible refine Go.callJ (fun _ => reads_pure _) ?_ ?_); (· exact aFit)) | ((with_reducible refine Go.callE (reads_pure _) ?_ ?_); (· exact aFit)) | ((with_reducible refine Go.callF (fun _ => reads_pure _) ?_ ?_); (· exact aFit)) | ((with_reducible refine Go.callW (writes_pure _) ?_ ?_); (· exact aFit)) | ((with_reducible refine Go.callJ (fun _ => writes_pure _) ?_ ?_); (· exact aFit)) | ((with_reducible refine Go.callE (writes_pure _) ?_ ?_); (· exact aFit)) | ((with_reducible refine Go.callF (fun _ => writes_pure _) ?_ ?_); (· exact aFit)) | (apply Go.givesG (g := some _); (· exact fun _ => mget_seen _ _)) | (refine Go.gt rfl ?_) | (refine Go.gf rfl ?_) | (with_reducible refine Go.join ?_) | (refine Go.lt' rfl ?_) | (refine Go.lf' rfl ?_) | ((with_reducible refine Go.bool ?_ ?_) <;> intro hc <;> (try simp only [List.length_map, ne_eq, hcs] at hc) <;> try (exfalso; omega)) | ((with_reducible refine Res.eq ?_ ?_); (· exact aFit)))
    · refine bl_eq (Eq.symm (decide_eq_false (not_aft (t := t) (j := j) (by omega) (by omega) ?_)))
      rw [lt_ite] at hc
      by_cases hm : (x.after.getD t []).getD j 0 ∈ pre x t j
      · exact .inr hm
      · left
        simp only [hm, or_false] at hc
        rw [Bool.eq_false_iff]
        simp only [afOk, ne_eq, Bool.and_eq_true, decide_eq_true_eq]
        rintro ⟨⟨⟨h1, h2⟩, h3⟩, h4⟩
        rw [h3] at hc
        simp only [Bool.true_eq_false, or_false] at hc
        omega
    · rw [lt_ite] at hc
      have hnew : (x.after.getD t []).getD j 0 ∉ pre x t j := fun hm => hc.1 (.inl (.inr hm))
      have hok : afOk x t ((x.after.getD t []).getD j 0) = true := by
        simp only [afOk, Bool.and_eq_true, decide_eq_true_eq]
        refine ⟨⟨⟨by have := fun h => hc.1 (.inl (.inl (.inl h))); omega, by have := fun h => hc.1 (.inl (.inl (.inr h))); omega⟩, ?_⟩, hc.2⟩
        have := fun h => hc.1 (.inr h)
        simpa using this
      repeat' (first | ((with_reducible refine Go.red ?_); conv => whnf) | with_reducible (first | refine Go.and ?_ ?_ | exact True.intro | refine Go.far ?_ | exact Go.askRep | refine Go.unroll ?_ | refine Go.drawn ?_) | ((with_reducible refine Apt.mk ?_); (try dsimp only); omega) | ((with_reducible refine Ask.mk ?_); first | exact aAsk | exact aAsk2 | (intro h; simp_all [Exec.cells, Deed.cells] <;> fail) | (simp_all [Exec.cells, Deed.cells] <;> fail)) | ((with_reducible refine Go.ari64 ?_ ?_ ?_); (· exact aBnd); (· exact aBnd)) | ((with_reducible refine Go.ariu8 ?_ ?_ ?_); (· exact aBnd); (· exact aBnd)) | (with_reducible refine Go.ari0 ?_) | (apply Go.elem; (· (first | exact ev_get | exact int_get | exact lst_get | exact aElem))) | (apply Go.row; (· exact aRow)) | (apply Go.map; (· exact aRow)) | (apply Go.gives; (· exact aGives)) | (apply Go.gives; (· exact aRes)) | ((with_reducible refine Go.callW (reads_pure _) ?_ ?_); (· exact aFit)) | ((with_reducible refine Go.callJ (fun _ => reads_pure _) ?_ ?_); (· exact aFit)) | ((with_reducible refine Go.callE (reads_pure _) ?_ ?_); (· exact aFit)) | ((with_reducible refine Go.callF (fun _ => reads_pure _) ?_ ?_); (· exact aFit)) | ((with_reducible refine Go.callW (writes_pure _) ?_ ?_); (· exact aFit)) | ((with_reducible refine Go.callJ (fun _ => writes_pure _) ?_ ?_); (· exact aFit)) | ((with_reducible refine Go.callE (writes_pure _) ?_ ?_); (· exact aFit)) | ((with_reducible refine Go.callF (fun _ => writes_pure _) ?_ ?_); (· exact aFit)) | (apply Go.givesG (g := none); (· exact fun _ => mget_new hnew)) | (apply Go.givesG (g := none); (· exact fun _ => mput_seen _ _ hnew)) | (refine Go.gt rfl ?_) | (refine Go.gf rfl ?_) | (with_reducible refine Go.join ?_) | (refine Go.lt' rfl ?_) | (refine Go.lf' rfl ?_) | ((with_reducible refine Go.bool ?_ ?_) <;> intro hc <;> (try simp only [List.length_map, ne_eq, hcs] at hc) <;> try (exfalso; omega)) | ((with_reducible refine Res.eq ?_ ?_); (· exact aFit)))
      have e := pre_succ (x := x) (t := t) (j := j) (by omega)
      have el : (pre x t (j + 1)).length = (pre x t j).length + 1 := by rw [e]; simp
      refine ⟨j + 1, by omega, aLess, by omega, aNx, aRow, ?_, ?_, ?_⟩
      · rw [e]; exact aRow
      · intro k hk
        rcases (mem_take_succ (by omega)).1 hk with h | rfl
        · exact hjall k h
        · exact hok
      · rw [e, List.nodup_append]
        exact ⟨hjnd, by simp, fun a ha b hb => by simp at hb; subst hb; exact fun e => hnew (by simpa using e ▸ ha)⟩
    · have hjl : j = (x.after.getD t []).length := by omega
      subst hjl
      have e := pre_next (x := x) (t := t) (by omega)
      refine ⟨t + 1, by omega, ?_, by omega, aNx, aRow, ?_, ?_, ?_⟩
      · rw [e]; exact aLess
      · rw [e]; exact aRow
      · intro t' ht' k hk
        by_cases h : t' = t
        · subst h; rw [List.take_length] at hjall; exact hjall k hk
        · exact hall t' (by omega) k hk
      · rw [e]; exact hjnd
  · have htl : t = x.after.length := by omega
    subst htl
    have hpre : pre x x.after.length 0 = x.after.flatten := by simp [pre]
    rw [hpre] at hnd r3 ⊢
    have hle : x.after.flatten.length ≤ x.events.length := by
      have := pre_lt (x := x) (t := x.after.length) (j := 0) hall (by simp) (by rw [hpre]; exact hnd)
      rw [hpre] at this; exact this
    refine Go.loop (fun i : Nat => [(3, i64 ((x.after.flatten.length : Int) - ((x.events.take i).countP Deed.wr : Nat))), (69, .im 5 (Deed.av default) (x.events.map Deed.av)), (70, i64 x.events.length), (71, i64 i)])
      (fun i H n => i ≤ x.events.length ∧ (x.events.take i).countP Deed.wr ≤ i) (fun i => x.events.length - i) 0 aLess ⟨Nat.zero_le _, by simp⟩ ?_
    rintro i H n ⟨hi, hci⟩
    repeat' (first | ((with_reducible refine Go.red ?_); conv => whnf) | with_reducible (first | refine Go.and ?_ ?_ | exact True.intro | refine Go.far ?_ | exact Go.askRep | refine Go.unroll ?_ | refine Go.drawn ?_) | ((with_reducible refine Apt.mk ?_); (try dsimp only); omega) | ((with_reducible refine Ask.mk ?_); first | exact aAsk | exact aAsk2 | (intro h; simp_all [Exec.cells, Deed.cells] <;> fail) | (simp_all [Exec.cells, Deed.cells] <;> fail)) | ((with_reducible refine Go.ari64 ?_ ?_ ?_); (· exact aBnd); (· exact aBnd)) | ((with_reducible refine Go.ariu8 ?_ ?_ ?_); (· exact aBnd); (· exact aBnd)) | (with_reducible refine Go.ari0 ?_) | (apply Go.elem; (· (first | exact ev_get | exact int_get | exact lst_get | exact aElem))) | (apply Go.row; (· exact aRow)) | (apply Go.map; (· exact aRow)) | (apply Go.gives; (· exact aGives)) | (apply Go.gives; (· exact aRes)) | ((with_reducible refine Go.callW (reads_pure _) ?_ ?_); (· exact aFit)) | ((with_reducible refine Go.callJ (fun _ => reads_pure _) ?_ ?_); (· exact aFit)) | ((with_reducible refine Go.callE (reads_pure _) ?_ ?_); (· exact aFit)) | ((with_reducible refine Go.callF (fun _ => reads_pure _) ?_ ?_); (· exact aFit)) | ((with_reducible refine Go.callW (writes_pure _) ?_ ?_); (· exact aFit)) | ((with_reducible refine Go.callJ (fun _ => writes_pure _) ?_ ?_); (· exact aFit)) | ((with_reducible refine Go.callE (writes_pure _) ?_ ?_); (· exact aFit)) | ((with_reducible refine Go.callF (fun _ => writes_pure _) ?_ ?_); (· exact aFit)) | (refine Go.gt rfl ?_) | (refine Go.gf rfl ?_) | (with_reducible refine Go.join ?_) | (refine Go.lt' rfl ?_) | (refine Go.lf' rfl ?_) | ((with_reducible refine Go.bool ?_ ?_) <;> intro hc <;> (try simp only [List.length_map, ne_eq, hcs] at hc) <;> try (exfalso; omega)) | ((with_reducible refine Res.eq ?_ ?_); (· exact aFit)))
    · have e := wrs_take (x := x) (i := i) (by omega)
      rw [if_pos (by simpa using hc)] at e
      exact ⟨i + 1, by omega, aLess, by omega, by omega⟩
    · have e := wrs_take (x := x) (i := i) (by omega)
      rw [if_neg (by simpa using hc)] at e
      exact ⟨i + 1, by omega, aLess, by omega, by omega⟩
    · have hil : i = x.events.length := by omega
      subst hil
      rw [List.take_length] at *
      refine bl_eq ?_
      rw [decide_eq_decide]
      simp only [aftOk, Exec.wrs]
      constructor
      · intro h; exact ⟨fun t' ht' k hk => hall t' ht' k hk, hnd, by omega⟩
      · rintro ⟨_, _, h⟩; omega
end Go.Proofs.Ytncllkpekbapjaa
