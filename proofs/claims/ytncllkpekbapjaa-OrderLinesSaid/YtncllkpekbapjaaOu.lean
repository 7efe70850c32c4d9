/- The document's Check. -/
import Derived.Test.YtncllkpekbapjaaOt
namespace Go.Proofs.Ytncllkpekbapjaa
open Go Go.Abs Go.Proofs
set_option linter.unusedSimpArgs false
set_option linter.unusedVariables false
set_option maxHeartbeats 2000000 in
theorem spot_pure (x : Exec) (hx : x.Wf) (k : Nat) (hk : k < x.events.length) (h0 : 0 ≤ (x.ev k).thing) (h1 : (x.ev k).thing < x.after.length) : Pure Try.prog 55 [x.av, i64 k] (fun r => r = i64 (place x k)) := by
  refine Go.pure Try.func55 nm55 low55 res55 nt55 rfl ?_
  have hl : (x.af (x.ev k).thing.toNat).length * 8 ≤ 140737488351232 := af_len hx (x.ev k).thing.toNat
  repeat' (first | ((with_reducible refine Go.red ?_); conv => whnf) | with_reducible (first | refine Go.and ?_ ?_ | exact True.intro | refine Go.far ?_ | exact Go.askRep | refine Go.unroll ?_ | refine Go.drawn ?_) | ((with_reducible refine Apt.mk ?_); (try dsimp only); omega) | ((with_reducible refine Ask.mk ?_); first | exact aAsk | (simp only [Int.toNat_natCast, List.length_map]; omega) | exact aAsk2 | (intro h; simp_all [Exec.cells, Deed.cells] <;> fail) | (simp_all [Exec.cells, Deed.cells] <;> fail)) | ((with_reducible refine Go.ari64 ?_ ?_ ?_); (· exact aBnd); (· exact aBnd)) | ((with_reducible refine Go.ariu8 ?_ ?_ ?_); (· exact aBnd); (· exact aBnd)) | (with_reducible refine Go.ari0 ?_) | (apply Go.elem; (· (first | exact ev_get | exact int_get | exact lst_get | exact aElem))) | (apply Go.row; (· exact aRow)) | (apply Go.map; (· exact aRow)) | (apply Go.gives; (· exact aGives)) | (apply Go.gives; (· exact aRes)) | (refine Go.gt rfl ?_) | (refine Go.gf rfl ?_) | (with_reducible refine Go.join ?_) | (refine Go.lt' rfl ?_) | (refine Go.lf' rfl ?_) | ((with_reducible refine Go.bool ?_ ?_) <;> intro hc <;> (try simp only [List.length_map, ne_eq, hcs] at hc) <;> try (exfalso; omega)) | ((with_reducible refine Res.eq ?_ ?_); (· exact aFit)))
  refine Go.loop (fun i : Nat => [(1, i64 k), (5, imI (x.af (x.ev k).thing.toNat)), (6, i64 i)]) (fun i _ _ => i ≤ (x.af (x.ev k).thing.toNat).length ∧ place x k = posI ((x.af (x.ev k).thing.toNat).drop i) k i) (fun i => (x.af (x.ev k).thing.toNat).length - i) 0 aLess ⟨Nat.zero_le _, by simp [place]⟩ ?_
  rintro i H nx ⟨hi, he⟩
  repeat' (first | ((with_reducible refine Go.red ?_); conv => whnf) | with_reducible (first | refine Go.and ?_ ?_ | exact True.intro | refine Go.far ?_ | exact Go.askRep | refine Go.unroll ?_ | refine Go.drawn ?_) | ((with_reducible refine Apt.mk ?_); (try dsimp only); omega) | ((with_reducible refine Ask.mk ?_); first | exact aAsk | exact aAsk2) | ((with_reducible refine Go.ari64 ?_ ?_ ?_); (· exact aBnd); (· exact aBnd)) | ((with_reducible refine Go.ariu8 ?_ ?_ ?_); (· exact aBnd); (· exact aBnd)) | (with_reducible refine Go.ari0 ?_) | (apply Go.elem; (· (first | exact int_get | exact aElem))) | (apply Go.row; (· exact aRow)) | (apply Go.map; (· exact aRow)) | (apply Go.gives; (· exact aGives)) | (apply Go.gives; (· exact aRes)) | (refine Go.gt rfl ?_) | (refine Go.gf rfl ?_) | (with_reducible refine Go.join ?_) | (refine Go.lt' rfl ?_) | (refine Go.lf' rfl ?_) | ((with_reducible refine Go.bool ?_ ?_) <;> intro hc <;> (try simp only [List.length_map, ne_eq, hcs] at hc) <;> try (exfalso; omega)) | ((with_reducible refine Res.eq ?_ ?_); (· exact aFit)))
  · refine congrArg _ (congrArg _ ?_)
    rw [he, posI_drop (by omega), if_pos hc.symm]
  · refine ⟨i + 1, by omega, aLess, by omega, ?_⟩
    rw [he, posI_drop (by omega), if_neg (fun e => hc e.symm)]
  · have : i = (x.af (x.ev k).thing.toNat).length := by omega
    subst this
    refine congrArg _ (congrArg _ ?_)
    rw [he]; simp [posI]
def seenB (n : Nat) (P : List Int) : List AV := (List.range n).map fun (k : Nat) => bl (decide ((k : Int) ∈ P))
theorem seenB_len (n : Nat) (P : List Int) : (seenB n P).length = n := by simp [seenB]
theorem seenB_zero (n : Nat) : List.replicate n (bl false) = seenB n [] := by simp [seenB, List.map_const']
theorem seenB_get {n : Nat} {P : List Int} {m : Nat} : (seenB n P).getD m (bl false) = bl (decide (m < n) && decide ((m : Int) ∈ P)) := by
  by_cases h : m < n
  · simp [seenB, List.getD, h]
  · simp [seenB, List.getD, h, List.getElem?_eq_none]
theorem seenB_set {n : Nat} {P : List Int} {k : Int} (h : 0 ≤ k ∧ k < n) : (seenB n P).set k.toNat (bl true) = seenB n (P ++ [k]) := by
  apply List.ext_getElem?
  intro j
  simp only [seenB, List.getElem?_set, List.getElem?_map, List.length_map, List.length_range, List.mem_append, List.mem_singleton]
  by_cases hj : j < n
  · rw [List.getElem?_range hj]
    by_cases h1 : k.toNat = j
    · have : (j : Int) = k := by omega
      rw [if_pos h1, if_pos (by omega)]; simp [this]
    · have : ¬ (j : Int) = k := by omega
      rw [if_neg h1]; simp [this]
  · rw [if_neg (by omega), List.getElem?_eq_none (by simp; omega)]; rfl
set_option maxHeartbeats 4000000 in
theorem rafter_pure (x : Exec) (hx : x.Wf) (hn : x.events.length ≤ 64) : Pure Try.prog 32 [x.av] (fun r => r = bl (decide (aftOk x))) := by
  refine Go.pure Try.func32 nm32 low32 res32 nt32 rfl ?_
  have ha := hx.afterlen
  have hal : ∀ t, t < x.after.length → (x.after.getD t []).length * 8 ≤ 140737488351232 := fun t ht => (hx.after (x.after.getD t []) (by simp only [List.getD, List.getElem?_eq_getElem ht, Option.getD_some]; exact List.getElem_mem ht)).2
  repeat' (first | ((with_reducible refine Go.red ?_); conv => whnf) | with_reducible (first | refine Go.and ?_ ?_ | exact True.intro | refine Go.far ?_ | exact Go.askRep | refine Go.unroll ?_ | refine Go.drawn ?_) | ((with_reducible refine Apt.mk ?_); (try dsimp only); omega) | ((with_reducible refine Ask.mk ?_); first | exact aAsk | exact aAsk2 | (intro h; simp_all [Exec.cells, Deed.cells] <;> fail) | (simp_all [Exec.cells, Deed.cells] <;> fail)) | ((with_reducible refine Go.ari64 ?_ ?_ ?_); (· exact aBnd); (· exact aBnd)) | ((with_reducible refine Go.ariu8 ?_ ?_ ?_); (· exact aBnd); (· exact aBnd)) | (with_reducible refine Go.ari0 ?_) | (apply Go.elem; (· (first | exact ev_get | exact int_get | exact lst_get | exact aElem))) | (apply Go.row; (· exact aRow)) | (apply Go.map; (· exact aRow)) | (apply Go.gives; (· exact aGives)) | (apply Go.gives; (· exact aRes)) | ((with_reducible refine Go.callW (writer_pure _) ?_ ?_); (· exact aFit)) | ((with_reducible refine Go.callJ (fun _ => writer_pure _) ?_ ?_); (· exact aFit)) | ((with_reducible refine Go.callE (writer_pure _) ?_ ?_); (· exact aFit)) | ((with_reducible refine Go.callF (fun _ => writer_pure _) ?_ ?_); (· exact aFit)) | (refine Go.gt rfl ?_) | (refine Go.gf rfl ?_) | (with_reducible refine Go.join ?_) | (refine Go.lt' rfl ?_) | (refine Go.lf' rfl ?_) | ((with_reducible refine Go.bool ?_ ?_) <;> intro hc <;> (try simp only [List.length_map, ne_eq, hcs] at hc) <;> try (exfalso; omega)) | ((with_reducible refine Res.eq ?_ ?_); (· exact aFit)))
  refine Go.loop (fun t : Nat => [(1, .pt 0 1 0 0), (3, .sl 5 x.events.length), (4, i64 (pre x t 0).length), (5, i64 t)])
    (fun t H n => t ≤ x.after.length ∧ 6 ≤ n ∧ getH H 0 = some (.row 27 4 .any [x.av]) ∧ getH H 5 = some (.row 4 1 (bl false) (seenB x.events.length (pre x t 0))) ∧ (∀ t', t' < t → ∀ k ∈ x.after.getD t' [], afOk x t' k = true) ∧ (pre x t 0).Nodup) (fun t => x.after.length - t) 0 (by rw [← List.length_map (f := Deed.av)]; exact aLess) ⟨Nat.zero_le _, aNx, aRow, by rw [show pre x 0 0 = [] by simp [pre], ← seenB_zero, ← List.length_map (f := Deed.av)]; exact aRow, fun _ h => by omega, by simp [pre]⟩ ?_
  rintro t H n ⟨ht, hn4, r0, r3, hall, hnd⟩
  repeat' (first | ((with_reducible refine Go.red ?_); conv => whnf) | with_reducible (first | refine Go.and ?_ ?_ | exact True.intro | refine Go.far ?_ | exact Go.askRep | refine Go.unroll ?_ | refine Go.drawn ?_) | ((with_reducible refine Apt.mk ?_); (try dsimp only); omega) | ((with_reducible refine Ask.mk ?_); first | exact aAsk | exact aAsk2 | (intro h; simp_all [Exec.cells, Deed.cells] <;> fail) | (simp_all [Exec.cells, Deed.cells] <;> fail)) | ((with_reducible refine Go.ari64 ?_ ?_ ?_); (· exact aBnd); (· exact aBnd)) | ((with_reducible refine Go.ariu8 ?_ ?_ ?_); (· exact aBnd); (· exact aBnd)) | (with_reducible refine Go.ari0 ?_) | (apply Go.elem; (· (first | exact ev_get | exact int_get | exact lst_get | exact aElem))) | (apply Go.row; (· exact aRow)) | (apply Go.map; (· exact aRow)) | (apply Go.gives; (· exact aGives)) | (apply Go.gives; (· exact aRes)) | ((with_reducible refine Go.callW (writer_pure _) ?_ ?_); (· exact aFit)) | ((with_reducible refine Go.callJ (fun _ => writer_pure _) ?_ ?_); (· exact aFit)) | ((with_reducible refine Go.callE (writer_pure _) ?_ ?_); (· exact aFit)) | ((with_reducible refine Go.callF (fun _ => writer_pure _) ?_ ?_); (· exact aFit)) | (refine Go.gt rfl ?_) | (refine Go.gf rfl ?_) | (with_reducible refine Go.join ?_) | (refine Go.lt' rfl ?_) | (refine Go.lf' rfl ?_) | ((with_reducible refine Go.bool ?_ ?_) <;> intro hc <;> (try simp only [List.length_map, ne_eq, hcs] at hc) <;> try (exfalso; omega)) | ((with_reducible refine Res.eq ?_ ?_); (· exact aFit)))
  · have hlt := hal t (by omega)
    have hlt2 : (x.af t).length * 8 ≤ 140737488351232 := hlt
    refine Go.loop (fun j : Nat => [(1, .pt 0 1 0 0), (3, .sl 5 x.events.length), (4, i64 (pre x t j).length), (5, i64 t), (6, i64 j)])
      (fun j H n => j ≤ (x.after.getD t []).length ∧ 6 ≤ n ∧ getH H 0 = some (.row 27 4 .any [x.av]) ∧ getH H 5 = some (.row 4 1 (bl false) (seenB x.events.length (pre x t j))) ∧ (∀ k ∈ (x.after.getD t []).take j, afOk x t k = true) ∧ (pre x t j).Nodup) (fun j => (x.after.getD t []).length - j) 0 aLess ⟨Nat.zero_le _, aNx, aRow, aRow, by simp, hnd⟩ ?_
    rintro j H n ⟨hj, hn5, r0, r3, hjall, hjnd⟩
    have hcount := pre_lt hall hjall hjnd
    repeat' (first | ((with_reducible refine Go.red ?_); conv => whnf) | with_reducible (first | refine Go.and ?_ ?_ | exact True.intro | refine Go.far ?_ | exact Go.askRep | refine Go.unroll ?_ | refine Go.drawn ?_) | ((with_reducible refine Apt.mk ?_); (try dsimp only); omega) | ((with_reducible refine Ask.mk ?_); first | exact aAsk | (exact fun _ => And.intro (seenB_len _ _) rfl) | (exact fun _ => seenB_len _ _) | (exact seenB_len _ _) | (exact And.intro (seenB_len _ _) rfl) | exact aAsk2 | (intro h; simp_all [Exec.cells, Deed.cells] <;> fail) | (simp_all [Exec.cells, Deed.cells] <;> fail)) | ((with_reducible refine Go.ari64 ?_ ?_ ?_); (· exact aBnd); (· exact aBnd)) | ((with_reducible refine Go.ariu8 ?_ ?_ ?_); (· exact aBnd); (· exact aBnd)) | (with_reducible refine Go.ari0 ?_) | (apply Go.elem; (· (first | exact ev_get | exact int_get | exact lst_get | exact seenB_get | exact aElem))) | (apply Go.row; (· exact aRow)) | (apply Go.map; (· exact aRow)) | (apply Go.gives; (· exact aGives)) | (apply Go.gives; (· exact aRes)) | ((with_reducible refine Go.callW (writer_pure _) ?_ ?_); (· exact aFit)) | ((with_reducible refine Go.callJ (fun _ => writer_pure _) ?_ ?_); (· exact aFit)) | ((with_reducible refine Go.callE (writer_pure _) ?_ ?_); (· exact aFit)) | ((with_reducible refine Go.callF (fun _ => writer_pure _) ?_ ?_); (· exact aFit)) | (refine Go.gt rfl ?_) | (refine Go.gf rfl ?_) | (with_reducible refine Go.join ?_) | (refine Go.lt' rfl ?_) | (refine Go.lf' rfl ?_) | ((with_reducible refine Go.bool ?_ ?_) <;> intro hc <;> (try simp only [List.length_map, ne_eq, hcs] at hc) <;> try (exfalso; omega)) | ((with_reducible refine Res.eq ?_ ?_); (· exact aFit)))
    · refine bl_eq (Eq.symm (decide_eq_false (not_aft (t := t) (j := j) (by omega) (by omega) ?_)))
      by_cases hm : (x.after.getD t []).getD j 0 ∈ pre x t j
      · exact .inr hm
      · left
        rw [Bool.eq_false_iff]
        simp only [afOk, ne_eq, Bool.and_eq_true, decide_eq_true_eq]
        rintro ⟨⟨⟨h1, h2⟩, h3⟩, h4⟩
        have e : ((((x.after.getD t []).getD j 0).toNat : Nat) : Int) = (x.after.getD t []).getD j 0 := by omega
        rw [e] at hc
        rcases hc with ((hc | hc) | hc) | hc
        · omega
        · exact hm hc.2
        · rw [h3] at hc; cases hc
        · exact hc h4
    · obtain ⟨hc1, hc2⟩ := hc
      have g1 : 0 ≤ (x.after.getD t []).getD j 0 ∧ (x.after.getD t []).getD j 0 < x.events.length := by
        have := fun h => hc1 (.inl (.inl h))
        omega
      have g0 : ((((x.after.getD t []).getD j 0).toNat : Nat) : Int) = (x.after.getD t []).getD j 0 := by omega
      have hnew : (x.after.getD t []).getD j 0 ∉ pre x t j := fun hm => hc1 (.inl (.inr ⟨by omega, by rw [g0]; exact hm⟩))
      have g2 : (x.ev ((x.after.getD t []).getD j 0).toNat).wr = true := by
        have := fun h => hc1 (.inr h)
        simpa using this
      have hok : afOk x t ((x.after.getD t []).getD j 0) = true := by
        simp only [afOk, Bool.and_eq_true, decide_eq_true_eq]
        exact ⟨⟨g1, g2⟩, hc2⟩
      have e := pre_succ (x := x) (t := t) (j := j) (by omega)
      have el : (pre x t (j + 1)).length = (pre x t j).length + 1 := by rw [e]; simp
      refine ⟨j + 1, by omega, aLess, by omega, aNx, aRow, ?_, ?_, ?_⟩
      · rw [e, ← seenB_set g1]; exact aRow
      · intro k hk
        rcases (mem_take_succ (by omega)).1 hk with h | rfl
        · exact hjall k h
        · exact hok
      · rw [e, List.nodup_append]
        exact ⟨hjnd, by simp, fun a ha b hb => by simp at hb; subst hb; exact fun e => hnew (by simpa using e ▸ ha)⟩
    · have hjl : j = (x.after.getD t []).length := by omega
      subst hjl
      have e := pre_next (x := x) (t := t) (by omega)
      refine ⟨t + 1, by omega, ?_, by omega, aNx, aRow, ?_, ?_, ?_⟩
      · rw [e]; exact aLess
      · rw [e]; exact aRow
      · intro t' ht' k hk
        by_cases h : t' = t
        · subst h; rw [List.take_length] at hjall; exact hjall k hk
        · exact hall t' (by omega) k hk
      · rw [e]; exact hjnd
  · have htl : t = x.after.length := by omega
    subst htl
    have hpre : pre x x.after.length 0 = x.after.flatten := by simp [pre]
    rw [hpre] at hnd r3 ⊢
    have hle : x.after.flatten.length ≤ x.events.length := by
      have := pre_lt (x := x) (t := x.after.length) (j := 0) hall (by simp) (by rw [hpre]; exact hnd)
      rw [hpre] at this; exact this
    refine Go.loop (fun i : Nat => [(1, .pt 0 1 0 0), (4, i64 ((x.after.flatten.length : Int) - ((x.events.take i).countP Deed.wr : Nat))), (8, i64 i)])
      (fun i H n => i ≤ x.events.length ∧ (x.events.take i).countP Deed.wr ≤ i ∧ 1 ≤ n ∧ getH H 0 = some (.row 27 4 .any [x.av])) (fun i => x.events.length - i) 0 (by simp only [List.take_zero, List.countP_nil, Int.natCast_zero, Int.sub_zero]; exact aLess) ⟨Nat.zero_le _, by simp, aNx, aRow⟩ ?_
    rintro i H n ⟨hi, hci, hn, r0⟩
    repeat' (first | ((with_reducible refine Go.red ?_); conv => whnf) | with_reducible (first | refine Go.and ?_ ?_ | exact True.intro | refine Go.far ?_ | exact Go.askRep | refine Go.unroll ?_ | refine Go.drawn ?_) | ((with_reducible refine Apt.mk ?_); (try dsimp only); omega) | ((with_reducible refine Ask.mk ?_); first | exact aAsk | exact aAsk2 | (intro h; simp_all [Exec.cells, Deed.cells] <;> fail) | (simp_all [Exec.cells, Deed.cells] <;> fail)) | ((with_reducible refine Go.ari64 ?_ ?_ ?_); (· exact aBnd); (· exact aBnd)) | ((with_reducible refine Go.ariu8 ?_ ?_ ?_); (· exact aBnd); (· exact aBnd)) | (with_reducible refine Go.ari0 ?_) | (apply Go.elem; (· (first | exact ev_get | exact int_get | exact lst_get | exact aElem))) | (apply Go.row; (· exact aRow)) | (apply Go.map; (· exact aRow)) | (apply Go.gives; (· exact aGives)) | (apply Go.gives; (· exact aRes)) | ((with_reducible refine Go.callW (writer_pure _) ?_ ?_); (· exact aFit)) | ((with_reducible refine Go.callJ (fun _ => writer_pure _) ?_ ?_); (· exact aFit)) | ((with_reducible refine Go.callE (writer_pure _) ?_ ?_); (· exact aFit)) | ((with_reducible refine Go.callF (fun _ => writer_pure _) ?_ ?_); (· exact aFit)) | (refine Go.gt rfl ?_) | (refine Go.gf rfl ?_) | (with_reducible refine Go.join ?_) | (refine Go.lt' rfl ?_) | (refine Go.lf' rfl ?_) | ((with_reducible refine Go.bool ?_ ?_) <;> intro hc <;> (try simp only [List.length_map, ne_eq, hcs] at hc) <;> try (exfalso; omega)) | ((with_reducible refine Res.eq ?_ ?_); (· exact aFit)))
    · have e := wrs_take (x := x) (i := i) (by omega)
      rw [if_pos (by simpa using hc)] at e
      refine ⟨i + 1, by omega, ?_, by omega, by omega, aNx, aRow⟩
      rw [e, Int.natCast_add, ← Int.sub_sub]
      exact aLess
    · have e := wrs_take (x := x) (i := i) (by omega)
      rw [if_neg (by simpa using hc)] at e
      refine ⟨i + 1, by omega, ?_, by omega, by omega, aNx, aRow⟩
      rw [e]
      exact aLess
    · have hil : i = x.events.length := by omega
      subst hil
      rw [List.take_length] at *
      refine bl_eq ?_
      rw [decide_eq_decide]
      simp only [aftOk, Exec.wrs]
      constructor
      · intro h; exact ⟨fun t' ht' k hk => hall t' ht' k hk, hnd, by omega⟩
      · rintro ⟨_, _, h⟩; omega
set_option maxHeartbeats 2000000 in
theorem rcheck_pure (x : Exec) (hx : x.Wf) : Pure Try.prog 11 [x.av] (fun r => r = .tup [i64 (checkS x).1, i64 (checkS x).2]) := by
  refine Go.pure Try.func11 nm11 low11 res11 nt11 rfl ?_
  have h1 := hx.eventslen
  have h2 := hx.frmlen
  have h3 := hx.afterlen
  have h4 := hx.firstlen
  repeat' (first | ((with_reducible refine Go.red ?_); conv => whnf) | with_reducible (first | refine Go.and ?_ ?_ | exact True.intro | refine Go.far ?_ | exact Go.askRep | refine Go.unroll ?_ | refine Go.drawn ?_) | ((with_reducible refine Apt.mk ?_); (try dsimp only); omega) | ((with_reducible refine Ask.mk ?_); first | exact aAsk | exact aAsk2 | (intro h; simp_all [Exec.cells, Deed.cells] <;> fail) | (simp_all [Exec.cells, Deed.cells] <;> fail)) | ((with_reducible refine Go.ari64 ?_ ?_ ?_); (· exact aBnd); (· exact aBnd)) | ((with_reducible refine Go.ariu8 ?_ ?_ ?_); (· exact aBnd); (· exact aBnd)) | (with_reducible refine Go.ari0 ?_) | (apply Go.elem; (· (first | exact ev_get | exact int_get | exact lst_get | exact aElem))) | (apply Go.row; (· exact aRow)) | (apply Go.map; (· exact aRow)) | (apply Go.gives; (· exact aGives)) | (apply Go.gives; (· exact aRes)) | (refine Go.gt rfl ?_) | (refine Go.gf rfl ?_) | (with_reducible refine Go.join ?_) | (refine Go.lt' rfl ?_) | (refine Go.lf' rfl ?_) | ((with_reducible refine Go.bool ?_ ?_) <;> intro hc <;> (try simp only [List.length_map, ne_eq, hcs] at hc) <;> try (exfalso; omega)) | ((with_reducible refine Res.eq ?_ ?_); (· exact aFit)))
  · have hs : shapeB x = false := by
      rw [Bool.eq_false_iff]
      simp only [shapeB, ne_eq, Bool.and_eq_true, decide_eq_true_eq]
      omega
    have e : checkS x = (220, 0) := by simp [checkS, hs]
    rw [e]
  · have hs : shapeB x = true := by
      simp only [shapeB, Bool.and_eq_true, decide_eq_true_eq]
      omega
    refine Go.loop (fun i : Nat => [(1, .pt 0 1 0 0), (2, i64 0), (3, i64 0), (4, i64 i)])
      (fun i H n => i ≤ x.events.length ∧ 1 ≤ n ∧ getH H 0 = some (.row 27 4 .any [x.av]) ∧ badFrom x x.events.length 0 = badFrom x (x.events.length - i) i) (fun i => x.events.length - i) 0 aLess ⟨Nat.zero_le _, aNx, aRow, by simp⟩ ?_
    rintro i H n ⟨hi, hn, r0, hb⟩
    have hfew : x.events.length ≤ 64 := by omega
    by_cases hlt : i < x.events.length
    · have hev := event_pure (x.ev i) x.first.length ((hx.events _ (getD_mem' default hlt)).kind.1) (by omega)
      have e : x.events.length - i = (x.events.length - (i + 1)) + 1 := by omega
      rw [e, badFrom] at hb
      cases he : evOk x.first.length (x.ev i) with
      | false =>
        rw [he, ← List.length_map (f := i64)] at hev
        rw [if_neg (by unfold goodAt; rw [he]; simp)] at hb
        repeat' (first | ((with_reducible refine Go.red ?_); conv => whnf) | with_reducible (first | refine Go.and ?_ ?_ | exact True.intro | refine Go.far ?_ | exact Go.askRep | refine Go.unroll ?_ | refine Go.drawn ?_) | ((with_reducible refine Apt.mk ?_); (try dsimp only); omega) | ((with_reducible refine Ask.mk ?_); first | exact aAsk | exact aAsk2 | (intro h; simp_all [Exec.cells] <;> fail) | (simp_all [Exec.cells] <;> fail)) | ((with_reducible refine Go.ari64 ?_ ?_ ?_); (· exact aBnd); (· exact aBnd)) | ((with_reducible refine Go.ariu8 ?_ ?_ ?_); (· exact aBnd); (· exact aBnd)) | (with_reducible refine Go.ari0 ?_) | (apply Go.elem; (· (first | exact ev_get | exact int_get | exact lst_get | exact aElem))) | (apply Go.row; (· exact aRow)) | (apply Go.map; (· exact aRow)) | (apply Go.gives; (· exact aGives)) | (apply Go.gives; (· exact aRes)) | ((refine Go.callW hev ?_ ?_); (· exact aFit)) | ((refine Go.callE hev ?_ ?_); (· exact aFit)) | (refine Go.gt rfl ?_) | (refine Go.gf rfl ?_) | (with_reducible refine Go.join ?_) | (refine Go.lt' rfl ?_) | (refine Go.lf' rfl ?_) | ((with_reducible refine Go.bool ?_ ?_) <;> intro hc <;> (try simp only [List.length_map, ne_eq, hcs] at hc) <;> try (exfalso; omega)) | ((with_reducible refine Res.eq ?_ ?_); (· exact aFit)))
        have e2 : checkS x = (220, (i : Int)) := by simp only [checkS, hs, if_true, hb]
        rw [e2]
      | true =>
        have hfr := from_pure x i hlt (by omega) he
        rw [he, ← List.length_map (f := i64)] at hev
        cases hf : frOk x i with
        | false =>
          rw [hf] at hfr
          rw [if_neg (by unfold goodAt; rw [hf]; simp)] at hb
          repeat' (first | ((with_reducible refine Go.red ?_); conv => whnf) | with_reducible (first | refine Go.and ?_ ?_ | exact True.intro | refine Go.far ?_ | exact Go.askRep | refine Go.unroll ?_ | refine Go.drawn ?_) | ((with_reducible refine Apt.mk ?_); (try dsimp only); omega) | ((with_reducible refine Ask.mk ?_); first | exact aAsk | exact aAsk2 | (intro h; simp_all [Exec.cells] <;> fail) | (simp_all [Exec.cells] <;> fail)) | ((with_reducible refine Go.ari64 ?_ ?_ ?_); (· exact aBnd); (· exact aBnd)) | ((with_reducible refine Go.ariu8 ?_ ?_ ?_); (· exact aBnd); (· exact aBnd)) | (with_reducible refine Go.ari0 ?_) | (apply Go.elem; (· (first | exact ev_get | exact int_get | exact lst_get | exact aElem))) | (apply Go.row; (· exact aRow)) | (apply Go.map; (· exact aRow)) | (apply Go.gives; (· exact aGives)) | (apply Go.gives; (· exact aRes)) | ((with_reducible refine Go.callW (hfr) ?_ ?_); (· exact aFit)) | ((with_reducible refine Go.callJ (fun _ => hfr) ?_ ?_); (· exact aFit)) | ((with_reducible refine Go.callE (hfr) ?_ ?_); (· exact aFit)) | ((with_reducible refine Go.callF (fun _ => hfr) ?_ ?_); (· exact aFit)) | ((refine Go.callW hev ?_ ?_); (· exact aFit)) | ((refine Go.callE hev ?_ ?_); (· exact aFit)) | (refine Go.gt rfl ?_) | (refine Go.gf rfl ?_) | (with_reducible refine Go.join ?_) | (refine Go.lt' rfl ?_) | (refine Go.lf' rfl ?_) | ((with_reducible refine Go.bool ?_ ?_) <;> intro hc <;> (try simp only [List.length_map, ne_eq, hcs] at hc) <;> try (exfalso; omega)) | ((with_reducible refine Res.eq ?_ ?_); (· exact aFit)))
          have e2 : checkS x = (220, (i : Int)) := by simp only [checkS, hs, if_true, hb]
          rw [e2]
        | true =>
          rw [hf] at hfr
          rw [if_pos (by unfold goodAt; rw [he, hf]; rfl)] at hb
          repeat' (first | ((with_reducible refine Go.red ?_); conv => whnf) | with_reducible (first | refine Go.and ?_ ?_ | exact True.intro | refine Go.far ?_ | exact Go.askRep | refine Go.unroll ?_ | refine Go.drawn ?_) | ((with_reducible refine Apt.mk ?_); (try dsimp only); omega) | ((with_reducible refine Ask.mk ?_); first | exact aAsk | exact aAsk2 | (intro h; simp_all [Exec.cells] <;> fail) | (simp_all [Exec.cells] <;> fail)) | ((with_reducible refine Go.ari64 ?_ ?_ ?_); (· exact aBnd); (· exact aBnd)) | ((with_reducible refine Go.ariu8 ?_ ?_ ?_); (· exact aBnd); (· exact aBnd)) | (with_reducible refine Go.ari0 ?_) | (apply Go.elem; (· (first | exact ev_get | exact int_get | exact lst_get | exact aElem))) | (apply Go.row; (· exact aRow)) | (apply Go.map; (· exact aRow)) | (apply Go.gives; (· exact aGives)) | (apply Go.gives; (· exact aRes)) | ((with_reducible refine Go.callW (hfr) ?_ ?_); (· exact aFit)) | ((with_reducible refine Go.callJ (fun _ => hfr) ?_ ?_); (· exact aFit)) | ((with_reducible refine Go.callE (hfr) ?_ ?_); (· exact aFit)) | ((with_reducible refine Go.callF (fun _ => hfr) ?_ ?_); (· exact aFit)) | ((refine Go.callW hev ?_ ?_); (· exact aFit)) | ((refine Go.callE hev ?_ ?_); (· exact aFit)) | (refine Go.gt rfl ?_) | (refine Go.gf rfl ?_) | (with_reducible refine Go.join ?_) | (refine Go.lt' rfl ?_) | (refine Go.lf' rfl ?_) | ((with_reducible refine Go.bool ?_ ?_) <;> intro hc <;> (try simp only [List.length_map, ne_eq, hcs] at hc) <;> try (exfalso; omega)) | ((with_reducible refine Res.eq ?_ ?_); (· exact aFit)))
          exact ⟨i + 1, by omega, aLess, by omega, aNx, aRow, hb⟩
    · have hil : i = x.events.length := by omega
      subst hil
      rw [Nat.sub_self, badFrom] at hb
      have ha := rafter_pure x hx hfew
      by_cases haf : aftOk x
      · have e2 : checkS x = (0, 0) := by simp only [checkS, hs, if_true, hb, haf]
        rw [decide_eq_true haf] at ha
        repeat' (first | ((with_reducible refine Go.red ?_); conv => whnf) | with_reducible (first | refine Go.and ?_ ?_ | exact True.intro | refine Go.far ?_ | exact Go.askRep | refine Go.unroll ?_ | refine Go.drawn ?_) | ((with_reducible refine Apt.mk ?_); (try dsimp only); omega) | ((with_reducible refine Ask.mk ?_); first | exact aAsk | exact aAsk2 | (intro h; simp_all [Exec.cells, Deed.cells] <;> fail) | (simp_all [Exec.cells, Deed.cells] <;> fail)) | ((with_reducible refine Go.ari64 ?_ ?_ ?_); (· exact aBnd); (· exact aBnd)) | ((with_reducible refine Go.ariu8 ?_ ?_ ?_); (· exact aBnd); (· exact aBnd)) | (with_reducible refine Go.ari0 ?_) | (apply Go.elem; (· (first | exact ev_get | exact int_get | exact lst_get | exact aElem))) | (apply Go.row; (· exact aRow)) | (apply Go.map; (· exact aRow)) | (apply Go.gives; (· exact aGives)) | (apply Go.gives; (· exact aRes)) | ((with_reducible refine Go.callW (ha) ?_ ?_); (· exact aFit)) | ((with_reducible refine Go.callJ (fun _ => ha) ?_ ?_); (· exact aFit)) | ((with_reducible refine Go.callE (ha) ?_ ?_); (· exact aFit)) | ((with_reducible refine Go.callF (fun _ => ha) ?_ ?_); (· exact aFit)) | (refine Go.gt rfl ?_) | (refine Go.gf rfl ?_) | (with_reducible refine Go.join ?_) | (refine Go.lt' rfl ?_) | (refine Go.lf' rfl ?_) | ((with_reducible refine Go.bool ?_ ?_) <;> intro hc <;> (try simp only [List.length_map, ne_eq, hcs] at hc) <;> try (exfalso; omega)) | ((with_reducible refine Res.eq ?_ ?_); (· exact aFit)))
        rw [e2]
      · have e2 : checkS x = (220, 0) := by simp only [checkS, hs, if_true, hb, haf, if_false]
        rw [decide_eq_false haf] at ha
        repeat' (first | ((with_reducible refine Go.red ?_); conv => whnf) | with_reducible (first | refine Go.and ?_ ?_ | exact True.intro | refine Go.far ?_ | exact Go.askRep | refine Go.unroll ?_ | refine Go.drawn ?_) | ((with_reducible refine Apt.mk ?_); (try dsimp only); omega) | ((with_reducible refine Ask.mk ?_); first | exact aAsk | exact aAsk2 | (intro h; simp_all [Exec.cells, Deed.cells] <;> fail) | (simp_all [Exec.cells, Deed.cells] <;> fail)) | ((with_reducible refine Go.ari64 ?_ ?_ ?_); (· exact aBnd); (· exact aBnd)) | ((with_reducible refine Go.ariu8 ?_ ?_ ?_); (· exact aBnd); (· exact aBnd)) | (with_reducible refine Go.ari0 ?_) | (apply Go.elem; (· (first | exact ev_get | exact int_get | exact lst_get | exact aElem))) | (apply Go.row; (· exact aRow)) | (apply Go.map; (· exact aRow)) | (apply Go.gives; (· exact aGives)) | (apply Go.gives; (· exact aRes)) | ((with_reducible refine Go.callW (ha) ?_ ?_); (· exact aFit)) | ((with_reducible refine Go.callJ (fun _ => ha) ?_ ?_); (· exact aFit)) | ((with_reducible refine Go.callE (ha) ?_ ?_); (· exact aFit)) | ((with_reducible refine Go.callF (fun _ => ha) ?_ ?_); (· exact aFit)) | (refine Go.gt rfl ?_) | (refine Go.gf rfl ?_) | (with_reducible refine Go.join ?_) | (refine Go.lt' rfl ?_) | (refine Go.lf' rfl ?_) | ((with_reducible refine Go.bool ?_ ?_) <;> intro hc <;> (try simp only [List.length_map, ne_eq, hcs] at hc) <;> try (exfalso; omega)) | ((with_reducible refine Res.eq ?_ ?_); (· exact aFit)))
        rw [e2]
end Go.Proofs.Ytncllkpekbapjaa
