/- The walk of OrderLine. -/
import Derived.Test.YtncllkpekbapjaaQb
namespace Go.Proofs.Ytncllkpekbapjaa
open Go Go.Abs Go.Proofs
set_option linter.unusedSimpArgs false
set_option linter.unusedVariables false
theorem isLine_of_isL {n : Nat} {l : List Int} (h : IsL n l) : isLine n l = true := by
  simp only [isLine, Bool.and_eq_true, decide_eq_true_eq]
  refine ⟨⟨h.len, fun k hk => ?_⟩, ?_⟩
  · obtain ⟨j, hj, e⟩ := mem_getD hk
    rw [← e]; exact h.ran j (by rw [← h.len]; exact hj)
  · unfold List.Nodup
    rw [List.pairwise_iff_getElem]
    intro i j hi hj hij e
    have hlen := h.len
    have := h.inj i j (by omega) (by omega) (by rw [getD_lt hi, getD_lt hj, e])
    omega
theorem plain_reads {x : Exec} (hx : x.Wf) (hp : plainB x = true) : readsL x (lineL x) = x.frm ∧ readsE x (lineL x) = 0 := by
  obtain ⟨hok, hl, ho⟩ := plain_line hp
  have hi := isLine_of_isL hl
  refine ⟨?_, by simp [readsE, hok, hi]⟩
  unfold readsL
  rw [if_pos ⟨hok, hi⟩]
  exact line_sees (fine_of hx hok) hl ho
theorem imF_eq (l : List Int) : imF l = .im 1 .any (l.map i64) := rfl
set_option maxHeartbeats 8000000 in
theorem oline_pure (x : Exec) (hx : x.Wf) : Pure Try.prog 7 [x.av] (fun r => r = bl true) := by
  refine Go.pure Try.func7 nm7 low7 res7 nt7 rfl ?_
  have h1 := plain_pure x hx
  have h2 := lineP_pure x hx
  cases hp : plainB x with
  | false =>
    have e : lineL x = [] := by unfold lineL; rw [lineB_eq, hp]; rfl
    rw [hp] at h1 h2
    rw [e] at h2
    generalize errN x = E at *
    repeat' (first | ((with_reducible refine Go.red ?_); conv => whnf) | with_reducible (first | refine Go.and ?_ ?_ | exact True.intro | refine Go.far ?_ | exact Go.askRep | refine Go.unroll ?_ | refine Go.drawn ?_) | ((with_reducible refine Apt.mk ?_); (try dsimp only); omega) | ((with_reducible refine Ask.mk ?_); first | exact aAsk | exact aAsk2) | ((with_reducible refine Go.ari64 ?_ ?_ ?_); (· exact aBnd); (· exact aBnd)) | ((with_reducible refine Go.ariu8 ?_ ?_ ?_); (· exact aBnd); (· exact aBnd)) | (with_reducible refine Go.ari0 ?_) | (apply Go.elem; (· exact aElem)) | (apply Go.row; (· exact aRow)) | (apply Go.map; (· exact aRow)) | (apply Go.gives; (· exact aGives)) | (apply Go.gives; (· exact aRes)) | ((with_reducible refine Go.callW (begins_pure) ?_ ?_); (· exact aFit)) | ((with_reducible refine Go.callJ (fun _ => begins_pure) ?_ ?_); (· exact aFit)) | ((with_reducible refine Go.callE (begins_pure) ?_ ?_); (· exact aFit)) | ((with_reducible refine Go.callF (fun _ => begins_pure) ?_ ?_); (· exact aFit)) | ((with_reducible refine Go.callW (h1) ?_ ?_); (· exact aFit)) | ((with_reducible refine Go.callJ (fun _ => h1) ?_ ?_); (· exact aFit)) | ((with_reducible refine Go.callE (h1) ?_ ?_); (· exact aFit)) | ((with_reducible refine Go.callF (fun _ => h1) ?_ ?_); (· exact aFit)) | ((with_reducible refine Go.callW (h2) ?_ ?_); (· exact aFit)) | ((with_reducible refine Go.callJ (fun _ => h2) ?_ ?_); (· exact aFit)) | ((with_reducible refine Go.callE (h2) ?_ ?_); (· exact aFit)) | ((with_reducible refine Go.callF (fun _ => h2) ?_ ?_); (· exact aFit)) | (refine Go.gt rfl ?_) | (refine Go.gf rfl ?_) | (with_reducible refine Go.join ?_) | (refine Go.lt' rfl ?_) | (refine Go.lf' rfl ?_) | ((with_reducible refine Go.bool ?_ ?_) <;> intro hc <;> (try simp only [List.length_map, ne_eq, hcs] at hc) <;> try (exfalso; omega)) | ((with_reducible refine Res.eq ?_ ?_); (· exact aFit)))
    all_goals first | exact rfl | (exfalso; simp at hc)
  | true =>
    obtain ⟨hok, hl, ho⟩ := plain_line hp
    obtain ⟨r1, r2⟩ := plain_reads hx hp
    have h := fine_of hx hok
    have hfew := h.few
    have hlen := hl.len
    have he0 : errN x = 0 := by simp [errN, hok]
    have h3 := (reads_pure2 x hx (lineL x) (by omega)).args (bs := [x.av, imF (lineL x)]) fun c => .cons (fun _ h => h) (.cons (le_im c _) .nil)
    have h4 := (ints_pure x.frm x.frm hx.frmlen hx.frmlen).args (bs := [imF x.frm, imI x.frm]) fun c => .cons (le_im c _) (.cons (fun _ h => h) .nil)
    rw [decide_eq_true rfl] at h4
    rw [r1, r2] at h3
    rw [hp, he0] at h1 h2
    have hat : ∀ a b, a < b → b < x.events.length → (x.ev a).thread = (x.ev b).thread → posS (lineL x) x.events.length a < posS (lineL x) x.events.length b := fun a b h1 h2 h3 => ahead_pos hl (line_thread hl ho h1 h2 h3)
    have haf : ∀ t k, t < x.after.length → k + 1 < (x.af t).length → posS (lineL x) x.events.length ((x.af t).getD k 0).toNat < posS (lineL x) x.events.length ((x.af t).getD (k + 1) 0).toNat := fun t k h1 h2 => ahead_pos hl (line_after h hl ho h1 h2)
    have har : ∀ t k, t < x.after.length → k < (x.af t).length → 0 ≤ (x.af t).getD k 0 ∧ (x.af t).getD k 0 < x.events.length := fun t k h1 h2 => by
      have := h.af.1 t h1 _ (getD_mem' 0 h2)
      simp only [afOk, Bool.and_eq_true, decide_eq_true_eq] at this
      exact this.1.1
    have hran := hl.ran
    generalize lineL x = L at *
    rw [imF_eq] at h3 h4
    repeat' (first | ((with_reducible refine Go.red ?_); conv => whnf) | with_reducible (first | refine Go.and ?_ ?_ | exact True.intro | refine Go.far ?_ | exact Go.askRep | refine Go.unroll ?_ | refine Go.drawn ?_) | ((with_reducible refine Apt.mk ?_); (try dsimp only); omega) | ((with_reducible refine Ask.mk ?_); first | exact aAsk | exact aAsk2 | (intro h; simp_all [Exec.cells] <;> fail) | (simp_all [Exec.cells] <;> fail)) | ((with_reducible refine Go.ari64 ?_ ?_ ?_); (· exact aBnd); (· exact aBnd)) | ((with_reducible refine Go.ariu8 ?_ ?_ ?_); (· exact aBnd); (· exact aBnd)) | (with_reducible refine Go.ari0 ?_) | (apply Go.elem; (· exact aElem)) | (apply Go.row; (· exact aRow)) | (apply Go.map; (· exact aRow)) | (apply Go.gives; (· exact aGives)) | (apply Go.gives; (· exact aRes)) | ((with_reducible refine Go.callW (begins_pure) ?_ ?_); (· exact aFit)) | ((with_reducible refine Go.callJ (fun _ => begins_pure) ?_ ?_); (· exact aFit)) | ((with_reducible refine Go.callE (begins_pure) ?_ ?_); (· exact aFit)) | ((with_reducible refine Go.callF (fun _ => begins_pure) ?_ ?_); (· exact aFit)) | ((with_reducible refine Go.callW (h1) ?_ ?_); (· exact aFit)) | ((with_reducible refine Go.callJ (fun _ => h1) ?_ ?_); (· exact aFit)) | ((with_reducible refine Go.callE (h1) ?_ ?_); (· exact aFit)) | ((with_reducible refine Go.callF (fun _ => h1) ?_ ?_); (· exact aFit)) | ((with_reducible refine Go.callW (h2) ?_ ?_); (· exact aFit)) | ((with_reducible refine Go.callJ (fun _ => h2) ?_ ?_); (· exact aFit)) | ((with_reducible refine Go.callE (h2) ?_ ?_); (· exact aFit)) | ((with_reducible refine Go.callF (fun _ => h2) ?_ ?_); (· exact aFit)) | ((with_reducible refine Go.callW (h3) ?_ ?_); (· exact aFit)) | ((with_reducible refine Go.callJ (fun _ => h3) ?_ ?_); (· exact aFit)) | ((with_reducible refine Go.callE (h3) ?_ ?_); (· exact aFit)) | ((with_reducible refine Go.callF (fun _ => h3) ?_ ?_); (· exact aFit)) | ((refine Go.callW h4 ?_ ?_); (· exact aFit)) | (refine Go.gt rfl ?_) | (refine Go.gf rfl ?_) | (with_reducible refine Go.join ?_) | (refine Go.lt' rfl ?_) | (refine Go.lf' rfl ?_) | ((with_reducible refine Go.bool ?_ ?_) <;> intro hc <;> (try simp only [List.length_map, ne_eq, hcs] at hc) <;> try (exfalso; omega)) | ((with_reducible refine Res.eq ?_ ?_); (· exact aFit)))
    refine Go.loop (fun i : Nat => [(1, .pt 0 1 0 0), (5, imF L), (10, .sl 45 x.events.length), (11, i64 i)])
      (fun i H n => i ≤ x.events.length ∧ 46 ≤ n ∧ getH H 0 = some (.row 27 4 .any [x.av]) ∧ getH H 45 = some (.row 3 1 (i64 0) (wC x.events.length (posS L i)))) (fun i => x.events.length - i) 0 (by rw [← List.length_map (f := Deed.av)]; exact aLess) ⟨Nat.zero_le _, aNx, aRow, by rw [show posS L 0 = fun _ => 0 from rfl, ← wC_zero, ← List.length_map (f := Deed.av)]; exact aRow⟩ ?_
    rintro i H1 n1 ⟨hi, hn1, r0, rp⟩
    by_cases hil : i < x.events.length
    · have hri := hran i hil
      have hri2 : (L.getD (i : Int).toNat 0).toNat < x.events.length := by simp only [Int.toNat_natCast]; omega
      repeat' (first | ((with_reducible refine Go.red ?_); conv => whnf) | with_reducible (first | refine Go.and ?_ ?_ | exact True.intro | refine Go.far ?_ | exact Go.askRep | refine Go.unroll ?_ | refine Go.drawn ?_) | ((with_reducible refine Apt.mk ?_); (try dsimp only); omega) | ((with_reducible refine Ask.mk ?_); first | exact aAsk | (exact And.intro (wC_len _ _) rfl) | (exact wC_len _ _) | (exact fun _ => And.intro (wC_len _ _) rfl) | (exact fun _ => wC_len _ _) | exact aAsk2) | ((with_reducible refine Go.ari64 ?_ ?_ ?_); (· exact aBnd); (· exact aBnd)) | ((with_reducible refine Go.ariu8 ?_ ?_ ?_); (· exact aBnd); (· exact aBnd)) | (with_reducible refine Go.ari0 ?_) | (apply Go.elem; (· (first | exact int_getD (by omega) _ | exact wC_getN hri2 _ | exact aElem))) | (apply Go.row; (· exact aRow)) | (apply Go.map; (· exact aRow)) | (apply Go.gives; (· exact aGives)) | (apply Go.gives; (· exact aRes)) | (refine Go.gt rfl ?_) | (refine Go.gf rfl ?_) | (with_reducible refine Go.join ?_) | (refine Go.lt' rfl ?_) | (refine Go.lf' rfl ?_) | ((with_reducible refine Go.bool ?_ ?_) <;> intro hc <;> (try simp only [List.length_map, ne_eq, hcs] at hc) <;> try (exfalso; omega)) | ((with_reducible refine Res.eq ?_ ?_); (· exact aFit)))
      refine ⟨i + 1, by omega, aLess, by omega, aNx, aRow, ?_⟩
      rw [posS, ← wC_set]
      exact aRow
    · have : i = x.events.length := by omega
      subst this
      have hran' := hran
      clear hran hl ho
      repeat' (first | ((with_reducible refine Go.red ?_); conv => whnf) | with_reducible (first | refine Go.and ?_ ?_ | exact True.intro | refine Go.far ?_ | exact Go.askRep | refine Go.unroll ?_ | refine Go.drawn ?_) | ((with_reducible refine Apt.mk ?_); (try dsimp only); omega) | ((with_reducible refine Ask.mk ?_); first | exact aAsk | exact aAsk2) | ((with_reducible refine Go.ari64 ?_ ?_ ?_); (· exact aBnd); (· exact aBnd)) | ((with_reducible refine Go.ariu8 ?_ ?_ ?_); (· exact aBnd); (· exact aBnd)) | (with_reducible refine Go.ari0 ?_) | (apply Go.elem; (· exact aElem)) | (apply Go.row; (· exact aRow)) | (apply Go.map; (· exact aRow)) | (apply Go.gives; (· exact aGives)) | (apply Go.gives; (· exact aRes)) | (refine Go.gt rfl ?_) | (refine Go.gf rfl ?_) | (with_reducible refine Go.join ?_) | (refine Go.lt' rfl ?_) | (refine Go.lf' rfl ?_) | ((with_reducible refine Go.bool ?_ ?_) <;> intro hc <;> (try simp only [List.length_map, ne_eq, hcs] at hc) <;> try (exfalso; omega)) | ((with_reducible refine Res.eq ?_ ?_); (· exact aFit)))
      refine Go.loop (fun i : Nat => [(1, .pt 0 1 0 0), (10, .sl 45 x.events.length), (12, i64 i)])
        (fun i H n => i ≤ x.events.length ∧ 46 ≤ n ∧ getH H 0 = some (.row 27 4 .any [x.av]) ∧ getH H 45 = some (.row 3 1 (i64 0) (wC x.events.length (posS L x.events.length)))) (fun i => x.events.length - i) 0 aLess ⟨Nat.zero_le _, aNx, aRow, aRow⟩ ?_
      rintro i H2 n2 ⟨hi, hn2, r02, rp2⟩
      by_cases hil : i < x.events.length
      · repeat' (first | ((with_reducible refine Go.red ?_); conv => whnf) | with_reducible (first | refine Go.and ?_ ?_ | exact True.intro | refine Go.far ?_ | exact Go.askRep | refine Go.unroll ?_ | refine Go.drawn ?_) | ((with_reducible refine Apt.mk ?_); (try dsimp only); omega) | ((with_reducible refine Ask.mk ?_); first | exact aAsk | exact aAsk2 | (intro h; simp_all [Exec.cells, Deed.cells] <;> fail) | (simp_all [Exec.cells, Deed.cells] <;> fail)) | ((with_reducible refine Go.ari64 ?_ ?_ ?_); (· exact aBnd); (· exact aBnd)) | ((with_reducible refine Go.ariu8 ?_ ?_ ?_); (· exact aBnd); (· exact aBnd)) | (with_reducible refine Go.ari0 ?_) | (apply Go.elem; (· exact aElem)) | (apply Go.row; (· exact aRow)) | (apply Go.map; (· exact aRow)) | (apply Go.gives; (· exact aGives)) | (apply Go.gives; (· exact aRes)) | (refine Go.gt rfl ?_) | (refine Go.gf rfl ?_) | (with_reducible refine Go.join ?_) | (refine Go.lt' rfl ?_) | (refine Go.lf' rfl ?_) | ((with_reducible refine Go.bool ?_ ?_) <;> intro hc <;> (try simp only [List.length_map, ne_eq, hcs] at hc) <;> try (exfalso; omega)) | ((with_reducible refine Res.eq ?_ ?_); (· exact aFit)))
        refine Go.loop (fun k : Nat => [(1, .pt 0 1 0 0), (10, .sl 45 x.events.length), (12, i64 i), (13, i64 k)])
          (fun k H n => k ≤ i ∧ 46 ≤ n ∧ getH H 0 = some (.row 27 4 .any [x.av]) ∧ getH H 45 = some (.row 3 1 (i64 0) (wC x.events.length (posS L x.events.length)))) (fun k => i - k) 0 aLess ⟨Nat.zero_le _, aNx, aRow, aRow⟩ ?_
        rintro k H3 n3 ⟨hk, hn3, r03, rp3⟩
        by_cases hki : k < i
        · have hp := hat k i hki hil
          by_cases ht : (x.ev i).thread = (x.ev k).thread
          · have hp2 := hp ht.symm
            repeat' (first | ((with_reducible refine Go.red ?_); conv => whnf) | with_reducible (first | refine Go.and ?_ ?_ | exact True.intro | refine Go.far ?_ | exact Go.askRep | refine Go.unroll ?_ | refine Go.drawn ?_) | ((with_reducible refine Apt.mk ?_); (try dsimp only); omega) | ((with_reducible refine Ask.mk ?_); first | exact aAsk | (exact And.intro (wC_len _ _) rfl) | (exact wC_len _ _) | (exact fun _ => And.intro (wC_len _ _) rfl) | (exact fun _ => wC_len _ _) | exact aAsk2 | (intro h; simp_all [Exec.cells, Deed.cells] <;> fail) | (simp_all [Exec.cells, Deed.cells] <;> fail)) | ((with_reducible refine Go.ari64 ?_ ?_ ?_); (· exact aBnd); (· exact aBnd)) | ((with_reducible refine Go.ariu8 ?_ ?_ ?_); (· exact aBnd); (· exact aBnd)) | (with_reducible refine Go.ari0 ?_) | (apply Go.elem; (· (first | exact ev_get | exact wC_getN (by omega) _ | exact aElem))) | (apply Go.row; (· exact aRow)) | (apply Go.map; (· exact aRow)) | (apply Go.gives; (· exact aGives)) | (apply Go.gives; (· exact aRes)) | (refine Go.gt rfl ?_) | (refine Go.gf rfl ?_) | (with_reducible refine Go.join ?_) | (refine Go.lt' rfl ?_) | (refine Go.lf' rfl ?_) | ((with_reducible refine Go.bool ?_ ?_) <;> intro hc <;> (try simp only [List.length_map, ne_eq, hcs] at hc) <;> try (exfalso; omega)) | ((with_reducible refine Res.eq ?_ ?_); (· exact aFit)))
            exact ⟨k + 1, by omega, aLess, by omega, aNx, aRow, aRow⟩
          · have htd : decide ((x.ev i).thread = (x.ev k).thread) = false := decide_eq_false ht
            repeat' (first | ((with_reducible refine Go.red ?_); conv => whnf) | with_reducible (first | refine Go.and ?_ ?_ | exact True.intro | refine Go.far ?_ | exact Go.askRep | refine Go.unroll ?_ | refine Go.drawn ?_) | ((with_reducible refine Apt.mk ?_); (try dsimp only); omega) | ((with_reducible refine Ask.mk ?_); first | exact aAsk | (exact And.intro (wC_len _ _) rfl) | (exact wC_len _ _) | (exact fun _ => And.intro (wC_len _ _) rfl) | (exact fun _ => wC_len _ _) | exact aAsk2 | (intro h; simp_all [Exec.cells, Deed.cells] <;> fail) | (simp_all [Exec.cells, Deed.cells] <;> fail)) | ((with_reducible refine Go.ari64 ?_ ?_ ?_); (· exact aBnd); (· exact aBnd)) | ((with_reducible refine Go.ariu8 ?_ ?_ ?_); (· exact aBnd); (· exact aBnd)) | (with_reducible refine Go.ari0 ?_) | (apply Go.elem; (· (first | exact ev_get | exact wC_getN (by omega) _ | exact aElem))) | (apply Go.row; (· exact aRow)) | (apply Go.map; (· exact aRow)) | (apply Go.gives; (· exact aGives)) | (apply Go.gives; (· exact aRes)) | (simp only [Int.toNat_natCast]) | (simp only [htd]) | (refine Go.gt rfl ?_) | (refine Go.gf rfl ?_) | (with_reducible refine Go.join ?_) | (refine Go.lt' rfl ?_) | (refine Go.lf' rfl ?_) | ((with_reducible refine Go.bool ?_ ?_) <;> intro hc <;> (try simp only [List.length_map, ne_eq, hcs] at hc) <;> try (exfalso; omega)) | ((with_reducible refine Res.eq ?_ ?_); (· exact aFit)))
            exact ⟨k + 1, by omega, aLess, by omega, aNx, aRow, aRow⟩
        · have : k = i := by omega
          subst this
          repeat' (first | ((with_reducible refine Go.red ?_); conv => whnf) | with_reducible (first | refine Go.and ?_ ?_ | exact True.intro | refine Go.far ?_ | exact Go.askRep | refine Go.unroll ?_ | refine Go.drawn ?_) | ((with_reducible refine Apt.mk ?_); (try dsimp only); omega) | ((with_reducible refine Ask.mk ?_); first | exact aAsk | exact aAsk2) | ((with_reducible refine Go.ari64 ?_ ?_ ?_); (· exact aBnd); (· exact aBnd)) | ((with_reducible refine Go.ariu8 ?_ ?_ ?_); (· exact aBnd); (· exact aBnd)) | (with_reducible refine Go.ari0 ?_) | (apply Go.elem; (· exact aElem)) | (apply Go.row; (· exact aRow)) | (apply Go.map; (· exact aRow)) | (apply Go.gives; (· exact aGives)) | (apply Go.gives; (· exact aRes)) | (refine Go.gt rfl ?_) | (refine Go.gf rfl ?_) | (with_reducible refine Go.join ?_) | (refine Go.lt' rfl ?_) | (refine Go.lf' rfl ?_) | ((with_reducible refine Go.bool ?_ ?_) <;> intro hc <;> (try simp only [List.length_map, ne_eq, hcs] at hc) <;> try (exfalso; omega)) | ((with_reducible refine Res.eq ?_ ?_); (· exact aFit)))
          exact ⟨k + 1, by omega, aLess, by omega, aNx, aRow, aRow⟩
      · have : i = x.events.length := by omega
        subst this
        repeat' (first | ((with_reducible refine Go.red ?_); conv => whnf) | with_reducible (first | refine Go.and ?_ ?_ | exact True.intro | refine Go.far ?_ | exact Go.askRep | refine Go.unroll ?_ | refine Go.drawn ?_) | ((with_reducible refine Apt.mk ?_); (try dsimp only); omega) | ((with_reducible refine Ask.mk ?_); first | exact aAsk | exact aAsk2) | ((with_reducible refine Go.ari64 ?_ ?_ ?_); (· exact aBnd); (· exact aBnd)) | ((with_reducible refine Go.ariu8 ?_ ?_ ?_); (· exact aBnd); (· exact aBnd)) | (with_reducible refine Go.ari0 ?_) | (apply Go.elem; (· exact aElem)) | (apply Go.row; (· exact aRow)) | (apply Go.map; (· exact aRow)) | (apply Go.gives; (· exact aGives)) | (apply Go.gives; (· exact aRes)) | (refine Go.gt rfl ?_) | (refine Go.gf rfl ?_) | (with_reducible refine Go.join ?_) | (refine Go.lt' rfl ?_) | (refine Go.lf' rfl ?_) | ((with_reducible refine Go.bool ?_ ?_) <;> intro hc <;> (try simp only [List.length_map, ne_eq, hcs] at hc) <;> try (exfalso; omega)) | ((with_reducible refine Res.eq ?_ ?_); (· exact aFit)))
        refine Go.loop (fun t : Nat => [(1, .pt 0 1 0 0), (10, .sl 45 x.events.length), (14, i64 t)])
          (fun t H n => t ≤ x.after.length ∧ 46 ≤ n ∧ getH H 0 = some (.row 27 4 .any [x.av]) ∧ getH H 45 = some (.row 3 1 (i64 0) (wC x.events.length (posS L x.events.length)))) (fun t => x.after.length - t) 0 aLess ⟨Nat.zero_le _, aNx, aRow, aRow⟩ ?_
        rintro t H4 n4 ⟨ht, hn4, r04, rp4⟩
        have hal := hx.afterlen
        by_cases htl : t < x.after.length
        · have hafl := af_len hx t
          have hafl2 : (x.af t).length * 8 ≤ 140737488351232 := hafl
          repeat' (first | ((with_reducible refine Go.red ?_); conv => whnf) | with_reducible (first | refine Go.and ?_ ?_ | exact True.intro | refine Go.far ?_ | exact Go.askRep | refine Go.unroll ?_ | refine Go.drawn ?_) | ((with_reducible refine Apt.mk ?_); (try dsimp only); omega) | ((with_reducible refine Ask.mk ?_); first | exact aAsk | exact aAsk2 | (intro h; simp_all [Exec.cells] <;> fail) | (simp_all [Exec.cells] <;> fail)) | ((with_reducible refine Go.ari64 ?_ ?_ ?_); (· exact aBnd); (· exact aBnd)) | ((with_reducible refine Go.ariu8 ?_ ?_ ?_); (· exact aBnd); (· exact aBnd)) | (with_reducible refine Go.ari0 ?_) | (apply Go.elem; (· exact aElem)) | (apply Go.row; (· exact aRow)) | (apply Go.map; (· exact aRow)) | (apply Go.gives; (· exact aGives)) | (apply Go.gives; (· exact aRes)) | (refine Go.gt rfl ?_) | (refine Go.gf rfl ?_) | (with_reducible refine Go.join ?_) | (refine Go.lt' rfl ?_) | (refine Go.lf' rfl ?_) | ((with_reducible refine Go.bool ?_ ?_) <;> intro hc <;> (try simp only [List.length_map, ne_eq, hcs] at hc) <;> try (exfalso; omega)) | ((with_reducible refine Res.eq ?_ ?_); (· exact aFit)))
          refine Go.loop (fun k : Nat => [(1, .pt 0 1 0 0), (10, .sl 45 x.events.length), (14, i64 t), (15, i64 k)])
            (fun k H n => 1 ≤ k ∧ (k ≤ (x.af t).length ∨ k = 1) ∧ 46 ≤ n ∧ getH H 0 = some (.row 27 4 .any [x.av]) ∧ getH H 45 = some (.row 3 1 (i64 0) (wC x.events.length (posS L x.events.length)))) (fun k => (x.af t).length - k) 1 aLess ⟨Nat.le_refl _, .inr rfl, aNx, aRow, aRow⟩ ?_
          rintro k H5 n5 ⟨hk1, hk, hn5, r05, rp5⟩
          by_cases hkl : k < (x.af t).length
          · obtain ⟨m, rfl⟩ : ∃ m, k = m + 1 := ⟨k - 1, by omega⟩
            have hkl2 : m + 1 < (x.after.getD t []).length := hkl
            have q1 := har t m htl (by omega)
            have q2 := har t (m + 1) htl hkl
            have q3 := haf t m htl hkl
            have em : (((m + 1 : Nat) : Int) - 1).toNat = m := by omega
            have eg1 : ((x.af t).map i64).getD (((m + 1 : Nat) : Int) - 1).toNat (i64 0) = i64 ((x.af t).getD m 0) := by rw [em]; exact int_get
            have eg2 : ((x.af t).map i64).getD ((m + 1 : Nat) : Int).toNat (i64 0) = i64 ((x.af t).getD (m + 1) 0) := int_get
            repeat' (first | ((with_reducible refine Go.red ?_); conv => whnf) | with_reducible (first | refine Go.and ?_ ?_ | exact True.intro | refine Go.far ?_ | exact Go.askRep | refine Go.unroll ?_ | refine Go.drawn ?_) | ((with_reducible refine Apt.mk ?_); (try dsimp only); omega) | ((with_reducible refine Ask.mk ?_); first | exact aAsk | (exact And.intro (wC_len _ _) rfl) | (exact wC_len _ _) | (exact fun _ => And.intro (wC_len _ _) rfl) | (exact fun _ => wC_len _ _) | exact aAsk2 | (intro h; simp_all [Exec.cells, Deed.cells] <;> fail) | (simp_all [Exec.cells, Deed.cells] <;> fail)) | ((with_reducible refine Go.ari64 ?_ ?_ ?_); (· exact aBnd); (· exact aBnd)) | ((with_reducible refine Go.ariu8 ?_ ?_ ?_); (· exact aBnd); (· exact aBnd)) | (with_reducible refine Go.ari0 ?_) | (apply Go.elem; (· (first | exact lst_get | exact eg1 | exact eg2 | exact wC_getN (by omega) _ | exact aElem))) | (apply Go.row; (· exact aRow)) | (apply Go.map; (· exact aRow)) | (apply Go.gives; (· exact aGives)) | (apply Go.gives; (· exact aRes)) | (refine Go.gt rfl ?_) | (refine Go.gf rfl ?_) | (with_reducible refine Go.join ?_) | (refine Go.lt' rfl ?_) | (refine Go.lf' rfl ?_) | ((with_reducible refine Go.bool ?_ ?_) <;> intro hc <;> (try simp only [List.length_map, ne_eq, hcs] at hc) <;> try (exfalso; omega)) | ((with_reducible refine Res.eq ?_ ?_); (· exact aFit)))
            exact ⟨m + 1 + 1, by omega, aLess, by omega, by omega, aNx, aRow, aRow⟩
          · have hkl2 : ¬ k < (x.after.getD t []).length := hkl
            repeat' (first | ((with_reducible refine Go.red ?_); conv => whnf) | with_reducible (first | refine Go.and ?_ ?_ | exact True.intro | refine Go.far ?_ | exact Go.askRep | refine Go.unroll ?_ | refine Go.drawn ?_) | ((with_reducible refine Apt.mk ?_); (try dsimp only); omega) | ((with_reducible refine Ask.mk ?_); first | exact aAsk | exact aAsk2 | (intro h; simp_all [Exec.cells] <;> fail) | (simp_all [Exec.cells] <;> fail)) | ((with_reducible refine Go.ari64 ?_ ?_ ?_); (· exact aBnd); (· exact aBnd)) | ((with_reducible refine Go.ariu8 ?_ ?_ ?_); (· exact aBnd); (· exact aBnd)) | (with_reducible refine Go.ari0 ?_) | (apply Go.elem; (· (first | exact lst_get | exact aElem))) | (apply Go.row; (· exact aRow)) | (apply Go.map; (· exact aRow)) | (apply Go.gives; (· exact aGives)) | (apply Go.gives; (· exact aRes)) | (refine Go.gt rfl ?_) | (refine Go.gf rfl ?_) | (with_reducible refine Go.join ?_) | (refine Go.lt' rfl ?_) | (refine Go.lf' rfl ?_) | ((with_reducible refine Go.bool ?_ ?_) <;> intro hc <;> (try simp only [List.length_map, ne_eq, hcs] at hc) <;> try (exfalso; omega)) | ((with_reducible refine Res.eq ?_ ?_); (· exact aFit)))
            exact ⟨t + 1, by omega, aLess, by omega, aNx, aRow, aRow⟩
        · have : t = x.after.length := by omega
          subst this
          repeat' (first | ((with_reducible refine Go.red ?_); conv => whnf) | with_reducible (first | refine Go.and ?_ ?_ | exact True.intro | refine Go.far ?_ | exact Go.askRep | refine Go.unroll ?_ | refine Go.drawn ?_) | ((with_reducible refine Apt.mk ?_); (try dsimp only); omega) | ((with_reducible refine Ask.mk ?_); first | exact aAsk | exact aAsk2 | (intro h; simp_all [Exec.cells] <;> fail) | (simp_all [Exec.cells] <;> fail)) | ((with_reducible refine Go.ari64 ?_ ?_ ?_); (· exact aBnd); (· exact aBnd)) | ((with_reducible refine Go.ariu8 ?_ ?_ ?_); (· exact aBnd); (· exact aBnd)) | (with_reducible refine Go.ari0 ?_) | (apply Go.elem; (· exact aElem)) | (apply Go.row; (· exact aRow)) | (apply Go.map; (· exact aRow)) | (apply Go.gives; (· exact aGives)) | (apply Go.gives; (· exact aRes)) | (refine Go.gt rfl ?_) | (refine Go.gf rfl ?_) | (with_reducible refine Go.join ?_) | (refine Go.lt' rfl ?_) | (refine Go.lf' rfl ?_) | ((with_reducible refine Go.bool ?_ ?_) <;> intro hc <;> (try simp only [List.length_map, ne_eq, hcs] at hc) <;> try (exfalso; omega)) | ((with_reducible refine Res.eq ?_ ?_); (· exact aFit)))
          exact rfl
end Go.Proofs.Ytncllkpekbapjaa
