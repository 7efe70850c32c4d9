/- The document's Reads. -/
import Derived.Test.YtncllkpekbapjaaPc
namespace Go.Proofs.Ytncllkpekbapjaa
open Go Go.Abs Go.Proofs
set_option linter.unusedSimpArgs false
set_option linter.unusedVariables false
theorem zeroB_get {n i m : Nat} : (zeroB n i).getD m (i64 0) = i64 (if m < i ∧ m < n then -1 else 0) := by
  by_cases h : m < n
  · by_cases h2 : m < i <;> simp [zeroB, List.getD, h, h2]
  · simp [zeroB, List.getD, h, List.getElem?_eq_none]
theorem updW_updW (W : Nat → Int) (k : Nat) (a b : Int) : updW (updW W k a) k b = updW W k b := by
  funext y; simp only [updW]; split <;> rfl
theorem wC_one (n : Nat) (W : Nat → Int) : wC n W = ((List.range n).map W).map i64 := by delta wC; rfl
theorem wC_slen {n k : Nat} {W : Nat → Int} {v : AV} : ((wC n W).set k v).length = n := by rw [List.length_set, wC_len]
theorem wC_sgetN {n m k : Nat} {W : Nat → Int} (v d : AV) (h : m < n) (e : m = k) : ((wC n W).set k v).getD m d = v := by
  subst e
  have : m < (wC n W).length := by rw [wC_len]; exact h
  simp [List.getD, List.getElem?_set, this]
theorem wC_getN {n m : Nat} {W : Nat → Int} (h : m < n) (d : AV) : (wC n W).getD m d = i64 (W m) := wC_get h d
set_option maxHeartbeats 8000000 in
theorem rreads_call (x : Exec) (hx : x.Wf) (l : List Int) (hl : l.length * 8 ≤ 140737488351232) :
    CallN Try.prog 24 [x.av, imI l] [] 0 (fun r H n => ∃ s, r = .tup [s, i64 (readsE x l)] ∧ ((readsL x l = [] ∧ s = .sc (.slice none 0 0)) ∨ ∃ b d, s = .sl b x.events.length ∧ (readsL x l).length = x.events.length ∧ getH H b = some (.row 3 1 d ((readsL x l).map i64)))) := by
  have hck := rcheck_pure x hx
  refine Go.fn Try.func24 nm24 low24 res24 nt24 rfl ?_
  cases hok : okB x with
  | false =>
    have e2 : readsE x l = 220 := by simp [readsE, hok]
    have e3 : readsL x l = [] := by simp [readsL, hok]
    rw [okB_false hok] at hck
    rw [e2, e3]
    repeat' (first | ((with_reducible refine Go.red ?_); conv => whnf) | with_reducible (first | refine Go.and ?_ ?_ | exact True.intro | refine Go.far ?_ | exact Go.askRep | refine Go.unroll ?_ | refine Go.drawn ?_) | ((with_reducible refine Apt.mk ?_); (try dsimp only); omega) | ((with_reducible refine Ask.mk ?_); first | exact aAsk | exact aAsk2) | ((with_reducible refine Go.ari64 ?_ ?_ ?_); (· exact aBnd); (· exact aBnd)) | ((with_reducible refine Go.ariu8 ?_ ?_ ?_); (· exact aBnd); (· exact aBnd)) | (with_reducible refine Go.ari0 ?_) | (apply Go.elem; (· exact aElem)) | (apply Go.row; (· exact aRow)) | (apply Go.map; (· exact aRow)) | (apply Go.gives; (· exact aGives)) | (apply Go.gives; (· exact aRes)) | ((with_reducible refine Go.callW (hck) ?_ ?_); (· exact aFit)) | ((with_reducible refine Go.callJ (fun _ => hck) ?_ ?_); (· exact aFit)) | ((with_reducible refine Go.callE (hck) ?_ ?_); (· exact aFit)) | ((with_reducible refine Go.callF (fun _ => hck) ?_ ?_); (· exact aFit)) | (refine Go.gt rfl ?_) | (refine Go.gf rfl ?_) | (with_reducible refine Go.join ?_) | (refine Go.lt' rfl ?_) | (refine Go.lf' rfl ?_) | ((with_reducible refine Go.bool ?_ ?_) <;> intro hc <;> (try simp only [List.length_map, ne_eq, hcs] at hc) <;> try (exfalso; omega)) | ((with_reducible refine Res.eq ?_ ?_); (· exact aFit)))
    exact ⟨⟨_, rfl, .inl ⟨rfl, rfl⟩⟩⟩
  | true =>
    have h := fine_of hx hok
    have hfew := h.few
    have hfl := hx.firstlen
    rw [okB_true hok] at hck
    repeat' (first | ((with_reducible refine Go.red ?_); conv => whnf) | with_reducible (first | refine Go.and ?_ ?_ | exact True.intro | refine Go.far ?_ | exact Go.askRep | refine Go.unroll ?_ | refine Go.drawn ?_) | ((with_reducible refine Apt.mk ?_); (try dsimp only); omega) | ((with_reducible refine Ask.mk ?_); first | exact aAsk | exact aAsk2 | (intro h; simp_all [Exec.cells] <;> fail) | (simp_all [Exec.cells] <;> fail)) | ((with_reducible refine Go.ari64 ?_ ?_ ?_); (· exact aBnd); (· exact aBnd)) | ((with_reducible refine Go.ariu8 ?_ ?_ ?_); (· exact aBnd); (· exact aBnd)) | (with_reducible refine Go.ari0 ?_) | (apply Go.elem; (· exact aElem)) | (apply Go.row; (· exact aRow)) | (apply Go.map; (· exact aRow)) | (apply Go.gives; (· exact aGives)) | (apply Go.gives; (· exact aRes)) | ((with_reducible refine Go.callW (hck) ?_ ?_); (· exact aFit)) | ((with_reducible refine Go.callJ (fun _ => hck) ?_ ?_); (· exact aFit)) | ((with_reducible refine Go.callE (hck) ?_ ?_); (· exact aFit)) | ((with_reducible refine Go.callF (fun _ => hck) ?_ ?_); (· exact aFit)) | (refine Go.gt rfl ?_) | (refine Go.gf rfl ?_) | (with_reducible refine Go.join ?_) | (refine Go.lt' rfl ?_) | (refine Go.lf' rfl ?_) | ((with_reducible refine Go.bool ?_ ?_) <;> intro hc <;> (try simp only [List.length_map, ne_eq, hcs] at hc) <;> try (exfalso; omega)) | ((with_reducible refine Res.eq ?_ ?_); (· exact aFit)))
    · have e1 : isLine x.events.length l = false := by
        rw [Bool.eq_false_iff]
        simp only [isLine, ne_eq, Bool.and_eq_true, decide_eq_true_eq]
        omega
      have e2 : readsE x l = 2 := by simp [readsE, hok, e1]
      have e3 : readsL x l = [] := by simp [readsL, e1]
      rw [e2, e3]
      exact ⟨⟨_, rfl, .inl ⟨rfl, rfl⟩⟩⟩
    · have hln : l.length = x.events.length := by omega
      refine Go.loop (fun i : Nat => [(1, imI l), (2, .pt 0 1 0 0), (8, i64 x.events.length), (9, .sl 16 x.events.length), (10, i64 i)])
        (fun i H n => i ≤ x.events.length ∧ 17 ≤ n ∧ getH H 0 = some (.row 27 4 .any [x.av]) ∧ getH H 16 = some (.row 4 1 (bl false) (seenB x.events.length (l.take i))) ∧ Upto x.events.length l i) (fun i => x.events.length - i) 0 (by rw [← List.length_map (f := Deed.av)]; exact aLess) ⟨Nat.zero_le _, aNx, aRow, by rw [List.take_zero, ← seenB_zero, ← List.length_map (f := Deed.av)]; exact aRow, by simp [Upto]⟩ ?_
      rintro i H1 n1 ⟨hi, hn1, r0, r16, hup⟩
      by_cases hil : i < x.events.length
      · repeat' (first | ((with_reducible refine Go.red ?_); conv => whnf) | with_reducible (first | refine Go.and ?_ ?_ | exact True.intro | refine Go.far ?_ | exact Go.askRep | refine Go.unroll ?_ | refine Go.drawn ?_) | ((with_reducible refine Apt.mk ?_); (try dsimp only); omega) | ((with_reducible refine Ask.mk ?_); first | exact aAsk | (exact fun _ => And.intro (seenB_len _ _) rfl) | (exact fun _ => seenB_len _ _) | (exact seenB_len _ _) | (exact And.intro (seenB_len _ _) rfl) | exact aAsk2) | ((with_reducible refine Go.ari64 ?_ ?_ ?_); (· exact aBnd); (· exact aBnd)) | ((with_reducible refine Go.ariu8 ?_ ?_ ?_); (· exact aBnd); (· exact aBnd)) | (with_reducible refine Go.ari0 ?_) | (apply Go.elem; (· (first | exact int_get | exact seenB_get | exact aElem))) | (apply Go.row; (· exact aRow)) | (apply Go.map; (· exact aRow)) | (apply Go.gives; (· exact aGives)) | (apply Go.gives; (· exact aRes)) | (refine Go.gt rfl ?_) | (refine Go.gf rfl ?_) | (with_reducible refine Go.join ?_) | (refine Go.lt' rfl ?_) | (refine Go.lf' rfl ?_) | ((with_reducible refine Go.bool ?_ ?_) <;> intro hc <;> (try simp only [List.length_map, ne_eq, hcs] at hc) <;> try (exfalso; omega)) | ((with_reducible refine Res.eq ?_ ?_); (· exact aFit)))
        · have e1 : isLine x.events.length l = false := isLine_bad (i := i) (by omega) (by
            rcases hc with (hc | hc) | hc
            · exact .inl hc
            · exact .inr (.inl hc)
            · by_cases h0 : 0 ≤ l.getD i 0
              · have e : (((l.getD i 0).toNat : Nat) : Int) = l.getD i 0 := by omega
                rw [e] at hc; exact .inr (.inr hc.2)
              · exact .inl (by omega))
          have e2 : readsE x l = 2 := by simp [readsE, hok, e1]
          have e3 : readsL x l = [] := by simp [readsL, e1]
          rw [e2, e3]
          exact ⟨⟨_, rfl, .inl ⟨rfl, rfl⟩⟩⟩
        · have g1 : 0 ≤ l.getD i 0 ∧ l.getD i 0 < x.events.length := by
            have := fun h => hc.1 (.inl h)
            have := fun h => hc.1 (.inr h)
            omega
          have g0 : ((((l.getD i 0).toNat : Nat)) : Int) = l.getD i 0 := by omega
          have hnew : l.getD i 0 ∉ l.take i := fun hm => hc.2.elim (fun h => h (by omega)) (fun h => h (by rw [g0]; exact hm))
          have e : l.take (i + 1) = l.take i ++ [l.getD i 0] := by rw [List.take_succ_eq_append_getElem (by omega), getD_el 0 (by omega)]
          refine ⟨i + 1, by omega, aLess, by omega, aNx, aRow, ?_, hup.next (by omega) g1 hnew⟩
          rw [e, ← seenB_set g1]; exact aRow
      · have : i = x.events.length := by omega
        subst this
        have e1 := isLine_of hln hup
        have e2 : readsE x l = 0 := by simp [readsE, hok, e1]
        have e3 : readsL x l = (List.range x.events.length).map (seeS x l).2 := by simp [readsL, hok, e1]
        rw [e2, e3]
        repeat' (first | ((with_reducible refine Go.red ?_); conv => whnf) | with_reducible (first | refine Go.and ?_ ?_ | exact True.intro | refine Go.far ?_ | exact Go.askRep | refine Go.unroll ?_ | refine Go.drawn ?_) | ((with_reducible refine Apt.mk ?_); (try dsimp only); omega) | ((with_reducible refine Ask.mk ?_); first | exact aAsk | exact aAsk2) | ((with_reducible refine Go.ari64 ?_ ?_ ?_); (· exact aBnd); (· exact aBnd)) | ((with_reducible refine Go.ariu8 ?_ ?_ ?_); (· exact aBnd); (· exact aBnd)) | (with_reducible refine Go.ari0 ?_) | (apply Go.elem; (· exact aElem)) | (apply Go.row; (· exact aRow)) | (apply Go.map; (· exact aRow)) | (apply Go.gives; (· exact aGives)) | (apply Go.gives; (· exact aRes)) | (refine Go.gt rfl ?_) | (refine Go.gf rfl ?_) | (with_reducible refine Go.join ?_) | (refine Go.lt' rfl ?_) | (refine Go.lf' rfl ?_) | ((with_reducible refine Go.bool ?_ ?_) <;> intro hc <;> (try simp only [List.length_map, ne_eq, hcs] at hc) <;> try (exfalso; omega)) | ((with_reducible refine Res.eq ?_ ?_); (· exact aFit)))
        refine Go.loop (fun i : Nat => [(1, imI l), (2, .pt 0 1 0 0), (8, i64 x.events.length), (11, .sl (n1 + 6) x.first.length), (12, i64 i)])
          (fun i H n => i ≤ x.first.length ∧ n1 + 7 ≤ n ∧ getH H 0 = some (.row 27 4 .any [x.av]) ∧ getH H (n1 + 6) = some (.row 3 1 (i64 0) (zeroB x.first.length i))) (fun i => x.first.length - i) 0 (by rw [← List.length_map (f := i64)]; exact aLess) ⟨Nat.zero_le _, aNx, aRow, by rw [← zeroB_zero, ← List.length_map (f := i64)]; exact aRow⟩ ?_
        rintro i H2 n2 ⟨hi, hn2, r02, r7⟩
        by_cases hil : i < x.first.length
        · repeat' (first | ((with_reducible refine Go.red ?_); conv => whnf) | with_reducible (first | refine Go.and ?_ ?_ | exact True.intro | refine Go.far ?_ | exact Go.askRep | refine Go.unroll ?_ | refine Go.drawn ?_) | ((with_reducible refine Apt.mk ?_); (try dsimp only); omega) | ((with_reducible refine Ask.mk ?_); first | exact aAsk | (exact And.intro (zeroB_len _ _) rfl) | (exact zeroB_len _ _) | exact aAsk2) | ((with_reducible refine Go.ari64 ?_ ?_ ?_); (· exact aBnd); (· exact aBnd)) | ((with_reducible refine Go.ariu8 ?_ ?_ ?_); (· exact aBnd); (· exact aBnd)) | (with_reducible refine Go.ari0 ?_) | (apply Go.elem; (· (first | exact zeroB_get | exact aElem))) | (apply Go.row; (· exact aRow)) | (apply Go.map; (· exact aRow)) | (apply Go.gives; (· exact aGives)) | (apply Go.gives; (· exact aRes)) | (refine Go.gt rfl ?_) | (refine Go.gf rfl ?_) | (with_reducible refine Go.join ?_) | (refine Go.lt' rfl ?_) | (refine Go.lf' rfl ?_) | ((with_reducible refine Go.bool ?_ ?_) <;> intro hc <;> (try simp only [List.length_map, ne_eq, hcs] at hc) <;> try (exfalso; omega)) | ((with_reducible refine Res.eq ?_ ?_); (· exact aFit)))
          refine ⟨i + 1, by omega, aLess, by omega, aNx, aRow, ?_⟩
          rw [← zeroB_set (by omega)]; exact aRow
        · have : i = x.first.length := by omega
          subst this
          rw [zeroB_all] at r7
          repeat' (first | ((with_reducible refine Go.red ?_); conv => whnf) | with_reducible (first | refine Go.and ?_ ?_ | exact True.intro | refine Go.far ?_ | exact Go.askRep | refine Go.unroll ?_ | refine Go.drawn ?_) | ((with_reducible refine Apt.mk ?_); (try dsimp only); omega) | ((with_reducible refine Ask.mk ?_); first | exact aAsk | (exact And.intro (lastB_len _ _) rfl) | (exact lastB_len _ _) | exact aAsk2) | ((with_reducible refine Go.ari64 ?_ ?_ ?_); (· exact aBnd); (· exact aBnd)) | ((with_reducible refine Go.ariu8 ?_ ?_ ?_); (· exact aBnd); (· exact aBnd)) | (with_reducible refine Go.ari0 ?_) | (apply Go.elem; (· exact aElem)) | (apply Go.row; (· exact aRow)) | (apply Go.map; (· exact aRow)) | (apply Go.gives; (· exact aGives)) | (apply Go.gives; (· exact aRes)) | (refine Go.gt rfl ?_) | (refine Go.gf rfl ?_) | (with_reducible refine Go.join ?_) | (refine Go.lt' rfl ?_) | (refine Go.lf' rfl ?_) | ((with_reducible refine Go.bool ?_ ?_) <;> intro hc <;> (try simp only [List.length_map, ne_eq, hcs] at hc) <;> try (exfalso; omega)) | ((with_reducible refine Res.eq ?_ ?_); (· exact aFit)))
          refine Go.loop (fun i : Nat => [(1, imI l), (2, .pt 0 1 0 0), (8, i64 x.events.length), (11, .sl (n1 + 6) x.first.length), (13, .sl (n2 + 5) x.events.length), (14, i64 i)])
            (fun i H n => i ≤ x.events.length ∧ n2 + 6 ≤ n ∧ getH H 0 = some (.row 27 4 .any [x.av]) ∧ getH H (n1 + 6) = some (.row 3 1 (i64 0) (lastB x.first.length (seeS x (l.take i)).1)) ∧ getH H (n2 + 5) = some (.row 3 1 (i64 0) (wC x.events.length (seeS x (l.take i)).2))) (fun i => x.events.length - i) 0 aLess ⟨Nat.zero_le _, aNx, aRow, aRow, by rw [List.take_zero, show (seeS x []).2 = fun _ => 0 from rfl, ← wC_zero]; exact aRow⟩ ?_
          rintro i H3 n3 ⟨hi, hn3, r03, r6, r5⟩
          by_cases hil : i < x.events.length
          · have hkr := hup.1 (l.getD i 0) (by rw [← hln, List.take_length]; exact getD_mem' 0 (by omega))
            have hs := seeS_succ x (l := l) (i := i) (by omega)
            have hth := fun hk => h.thing (i := (l.getD i 0).toNat) (by omega) hk
            generalize hS : seeS x (l.take i) = S at *
            generalize hK : (l.getD i 0) = k at *
            have hkk : l.getD (i : Int).toNat 0 = k := hK
            cases hrd : (x.ev k.toNat).rd with
            | true =>
              have ht := hth (kind_rd hrd)
              rw [h.afl] at ht
              cases hwr : (x.ev k.toNat).wr with
              | true =>
                have e : seeStep x S k = (updI S.1 (x.ev k.toNat).thing k, updW S.2 k.toNat (S.1 (x.ev k.toNat).thing)) := by simp only [seeStep, hrd, hwr]; rfl
                repeat' (first | ((with_reducible refine Go.red ?_); conv => whnf) | with_reducible (first | refine Go.and ?_ ?_ | exact True.intro | refine Go.far ?_ | exact Go.askRep | refine Go.unroll ?_ | refine Go.drawn ?_) | ((with_reducible refine Apt.mk ?_); (try dsimp only); omega) | ((with_reducible refine Ask.mk ?_); first | exact aAsk | (exact And.intro (lastB_len _ _) rfl) | (exact lastB_len _ _) | (exact And.intro (wC_len _ _) rfl) | (exact wC_len _ _) | (exact And.intro wC_slen rfl) | (exact And.intro wC_slen trivial) | (exact wC_slen) | exact aAsk2 | (intro h; simp_all [Exec.cells, Deed.cells] <;> fail) | (simp_all [Exec.cells, Deed.cells] <;> fail)) | ((with_reducible refine Go.ari64 ?_ ?_ ?_); (· exact aBnd); (· exact aBnd)) | ((with_reducible refine Go.ariu8 ?_ ?_ ?_); (· exact aBnd); (· exact aBnd)) | (with_reducible refine Go.ari0 ?_) | (apply Go.elem; (· (first | exact int_get | exact ev_get | exact lastB_get (by omega) _ | exact wC_sgetN _ _ (by omega) (by omega) | exact wC_getN (by omega) _ | exact aElem))) | (apply Go.row; (· exact aRow)) | (apply Go.map; (· exact aRow)) | (apply Go.gives; (· exact aGives)) | (apply Go.gives; (· exact aRes)) | ((with_reducible refine Go.callW (reader_pure _) ?_ ?_); (· exact aFit)) | ((with_reducible refine Go.callJ (fun _ => reader_pure _) ?_ ?_); (· exact aFit)) | ((with_reducible refine Go.callE (reader_pure _) ?_ ?_); (· exact aFit)) | ((with_reducible refine Go.callF (fun _ => reader_pure _) ?_ ?_); (· exact aFit)) | ((with_reducible refine Go.callW (writer_pure _) ?_ ?_); (· exact aFit)) | ((with_reducible refine Go.callJ (fun _ => writer_pure _) ?_ ?_); (· exact aFit)) | ((with_reducible refine Go.callE (writer_pure _) ?_ ?_); (· exact aFit)) | ((with_reducible refine Go.callF (fun _ => writer_pure _) ?_ ?_); (· exact aFit)) | (simp only [hkk]) | (simp only [hrd]) | (simp only [hwr]) | (refine Go.gt rfl ?_) | (refine Go.gf rfl ?_) | (with_reducible refine Go.join ?_) | (refine Go.lt' rfl ?_) | (refine Go.lf' rfl ?_) | ((with_reducible refine Go.bool ?_ ?_) <;> intro hc <;> (try simp only [List.length_map, ne_eq, hcs] at hc) <;> try (exfalso; omega)) | ((with_reducible refine Res.eq ?_ ?_); (· exact aFit)))
                refine ⟨i + 1, by omega, aLess, by omega, aNx, aRow, ?_, ?_⟩
                · rw [hs, e]; dsimp only; rw [← lastB_set ht]; exact aRow
                · rw [hs, e]; dsimp only; rw [← updW_updW S.2 k.toNat (-1), ← wC_set, ← wC_set]; exact aRow
              | false =>
                have e : seeStep x S k = (S.1, updW S.2 k.toNat (S.1 (x.ev k.toNat).thing)) := by simp only [seeStep, hrd, hwr]; rfl
                repeat' (first | ((with_reducible refine Go.red ?_); conv => whnf) | with_reducible (first | refine Go.and ?_ ?_ | exact True.intro | refine Go.far ?_ | exact Go.askRep | refine Go.unroll ?_ | refine Go.drawn ?_) | ((with_reducible refine Apt.mk ?_); (try dsimp only); omega) | ((with_reducible refine Ask.mk ?_); first | exact aAsk | (exact And.intro (lastB_len _ _) rfl) | (exact lastB_len _ _) | (exact And.intro (wC_len _ _) rfl) | (exact wC_len _ _) | (exact And.intro wC_slen rfl) | (exact And.intro wC_slen trivial) | (exact wC_slen) | exact aAsk2 | (intro h; simp_all [Exec.cells, Deed.cells] <;> fail) | (simp_all [Exec.cells, Deed.cells] <;> fail)) | ((with_reducible refine Go.ari64 ?_ ?_ ?_); (· exact aBnd); (· exact aBnd)) | ((with_reducible refine Go.ariu8 ?_ ?_ ?_); (· exact aBnd); (· exact aBnd)) | (with_reducible refine Go.ari0 ?_) | (apply Go.elem; (· (first | exact int_get | exact ev_get | exact lastB_get (by omega) _ | exact wC_sgetN _ _ (by omega) (by omega) | exact wC_getN (by omega) _ | exact aElem))) | (apply Go.row; (· exact aRow)) | (apply Go.map; (· exact aRow)) | (apply Go.gives; (· exact aGives)) | (apply Go.gives; (· exact aRes)) | ((with_reducible refine Go.callW (reader_pure _) ?_ ?_); (· exact aFit)) | ((with_reducible refine Go.callJ (fun _ => reader_pure _) ?_ ?_); (· exact aFit)) | ((with_reducible refine Go.callE (reader_pure _) ?_ ?_); (· exact aFit)) | ((with_reducible refine Go.callF (fun _ => reader_pure _) ?_ ?_); (· exact aFit)) | ((with_reducible refine Go.callW (writer_pure _) ?_ ?_); (· exact aFit)) | ((with_reducible refine Go.callJ (fun _ => writer_pure _) ?_ ?_); (· exact aFit)) | ((with_reducible refine Go.callE (writer_pure _) ?_ ?_); (· exact aFit)) | ((with_reducible refine Go.callF (fun _ => writer_pure _) ?_ ?_); (· exact aFit)) | (simp only [hkk]) | (simp only [hrd]) | (simp only [hwr]) | (refine Go.gt rfl ?_) | (refine Go.gf rfl ?_) | (with_reducible refine Go.join ?_) | (refine Go.lt' rfl ?_) | (refine Go.lf' rfl ?_) | ((with_reducible refine Go.bool ?_ ?_) <;> intro hc <;> (try simp only [List.length_map, ne_eq, hcs] at hc) <;> try (exfalso; omega)) | ((with_reducible refine Res.eq ?_ ?_); (· exact aFit)))
                refine ⟨i + 1, by omega, aLess, by omega, aNx, aRow, ?_, ?_⟩
                · rw [hs, e]; exact aRow
                · rw [hs, e]; dsimp only; rw [← updW_updW S.2 k.toNat (-1), ← wC_set, ← wC_set]; exact aRow
            | false =>
              cases hwr : (x.ev k.toNat).wr with
              | true =>
                have ht := hth (kind_wr hwr)
                rw [h.afl] at ht
                have e : seeStep x S k = (updI S.1 (x.ev k.toNat).thing k, updW S.2 k.toNat (-1)) := by simp only [seeStep, hrd, hwr]; rfl
                repeat' (first | ((with_reducible refine Go.red ?_); conv => whnf) | with_reducible (first | refine Go.and ?_ ?_ | exact True.intro | refine Go.far ?_ | exact Go.askRep | refine Go.unroll ?_ | refine Go.drawn ?_) | ((with_reducible refine Apt.mk ?_); (try dsimp only); omega) | ((with_reducible refine Ask.mk ?_); first | exact aAsk | (exact And.intro (lastB_len _ _) rfl) | (exact lastB_len _ _) | (exact And.intro (wC_len _ _) rfl) | (exact wC_len _ _) | (exact And.intro wC_slen rfl) | (exact And.intro wC_slen trivial) | (exact wC_slen) | exact aAsk2 | (intro h; simp_all [Exec.cells, Deed.cells] <;> fail) | (simp_all [Exec.cells, Deed.cells] <;> fail)) | ((with_reducible refine Go.ari64 ?_ ?_ ?_); (· exact aBnd); (· exact aBnd)) | ((with_reducible refine Go.ariu8 ?_ ?_ ?_); (· exact aBnd); (· exact aBnd)) | (with_reducible refine Go.ari0 ?_) | (apply Go.elem; (· (first | exact int_get | exact ev_get | exact lastB_get (by omega) _ | exact wC_sgetN _ _ (by omega) (by omega) | exact wC_getN (by omega) _ | exact aElem))) | (apply Go.row; (· exact aRow)) | (apply Go.map; (· exact aRow)) | (apply Go.gives; (· exact aGives)) | (apply Go.gives; (· exact aRes)) | ((with_reducible refine Go.callW (reader_pure _) ?_ ?_); (· exact aFit)) | ((with_reducible refine Go.callJ (fun _ => reader_pure _) ?_ ?_); (· exact aFit)) | ((with_reducible refine Go.callE (reader_pure _) ?_ ?_); (· exact aFit)) | ((with_reducible refine Go.callF (fun _ => reader_pure _) ?_ ?_); (· exact aFit)) | ((with_reducible refine Go.callW (writer_pure _) ?_ ?_); (· exact aFit)) | ((with_reducible refine Go.callJ (fun _ => writer_pure _) ?_ ?_); (· exact aFit)) | ((with_reducible refine Go.callE (writer_pure _) ?_ ?_); (· exact aFit)) | ((with_reducible refine Go.callF (fun _ => writer_pure _) ?_ ?_); (· exact aFit)) | (simp only [hkk]) | (simp only [hrd]) | (simp only [hwr]) | (refine Go.gt rfl ?_) | (refine Go.gf rfl ?_) | (with_reducible refine Go.join ?_) | (refine Go.lt' rfl ?_) | (refine Go.lf' rfl ?_) | ((with_reducible refine Go.bool ?_ ?_) <;> intro hc <;> (try simp only [List.length_map, ne_eq, hcs] at hc) <;> try (exfalso; omega)) | ((with_reducible refine Res.eq ?_ ?_); (· exact aFit)))
                refine ⟨i + 1, by omega, aLess, by omega, aNx, aRow, ?_, ?_⟩
                · rw [hs, e]; dsimp only; rw [← lastB_set ht]; exact aRow
                · rw [hs, e]; dsimp only; rw [← wC_set]; exact aRow
              | false =>
                have e : seeStep x S k = (S.1, updW S.2 k.toNat (-1)) := by simp only [seeStep, hrd, hwr]; rfl
                repeat' (first | ((with_reducible refine Go.red ?_); conv => whnf) | with_reducible (first | refine Go.and ?_ ?_ | exact True.intro | refine Go.far ?_ | exact Go.askRep | refine Go.unroll ?_ | refine Go.drawn ?_) | ((with_reducible refine Apt.mk ?_); (try dsimp only); omega) | ((with_reducible refine Ask.mk ?_); first | exact aAsk | (exact And.intro (lastB_len _ _) rfl) | (exact lastB_len _ _) | (exact And.intro (wC_len _ _) rfl) | (exact wC_len _ _) | (exact And.intro wC_slen rfl) | (exact And.intro wC_slen trivial) | (exact wC_slen) | exact aAsk2 | (intro h; simp_all [Exec.cells, Deed.cells] <;> fail) | (simp_all [Exec.cells, Deed.cells] <;> fail)) | ((with_reducible refine Go.ari64 ?_ ?_ ?_); (· exact aBnd); (· exact aBnd)) | ((with_reducible refine Go.ariu8 ?_ ?_ ?_); (· exact aBnd); (· exact aBnd)) | (with_reducible refine Go.ari0 ?_) | (apply Go.elem; (· (first | exact int_get | exact ev_get | exact lastB_get (by omega) _ | exact wC_sgetN _ _ (by omega) (by omega) | exact wC_getN (by omega) _ | exact aElem))) | (apply Go.row; (· exact aRow)) | (apply Go.map; (· exact aRow)) | (apply Go.gives; (· exact aGives)) | (apply Go.gives; (· exact aRes)) | ((with_reducible refine Go.callW (reader_pure _) ?_ ?_); (· exact aFit)) | ((with_reducible refine Go.callJ (fun _ => reader_pure _) ?_ ?_); (· exact aFit)) | ((with_reducible refine Go.callE (reader_pure _) ?_ ?_); (· exact aFit)) | ((with_reducible refine Go.callF (fun _ => reader_pure _) ?_ ?_); (· exact aFit)) | ((with_reducible refine Go.callW (writer_pure _) ?_ ?_); (· exact aFit)) | ((with_reducible refine Go.callJ (fun _ => writer_pure _) ?_ ?_); (· exact aFit)) | ((with_reducible refine Go.callE (writer_pure _) ?_ ?_); (· exact aFit)) | ((with_reducible refine Go.callF (fun _ => writer_pure _) ?_ ?_); (· exact aFit)) | (simp only [hkk]) | (simp only [hrd]) | (simp only [hwr]) | (refine Go.gt rfl ?_) | (refine Go.gf rfl ?_) | (with_reducible refine Go.join ?_) | (refine Go.lt' rfl ?_) | (refine Go.lf' rfl ?_) | ((with_reducible refine Go.bool ?_ ?_) <;> intro hc <;> (try simp only [List.length_map, ne_eq, hcs] at hc) <;> try (exfalso; omega)) | ((with_reducible refine Res.eq ?_ ?_); (· exact aFit)))
                refine ⟨i + 1, by omega, aLess, by omega, aNx, aRow, ?_, ?_⟩
                · rw [hs, e]; exact aRow
                · rw [hs, e]; dsimp only; rw [← wC_set]; exact aRow
          · have : i = x.events.length := by omega
            subst this
            repeat' (first | ((with_reducible refine Go.red ?_); conv => whnf) | with_reducible (first | refine Go.and ?_ ?_ | exact True.intro | refine Go.far ?_ | exact Go.askRep | refine Go.unroll ?_ | refine Go.drawn ?_) | ((with_reducible refine Apt.mk ?_); (try dsimp only); omega) | ((with_reducible refine Ask.mk ?_); first | exact aAsk | exact aAsk2) | ((with_reducible refine Go.ari64 ?_ ?_ ?_); (· exact aBnd); (· exact aBnd)) | ((with_reducible refine Go.ariu8 ?_ ?_ ?_); (· exact aBnd); (· exact aBnd)) | (with_reducible refine Go.ari0 ?_) | (apply Go.elem; (· exact aElem)) | (apply Go.row; (· exact aRow)) | (apply Go.map; (· exact aRow)) | (apply Go.gives; (· exact aGives)) | (apply Go.gives; (· exact aRes)) | (refine Go.gt rfl ?_) | (refine Go.gf rfl ?_) | (with_reducible refine Go.join ?_) | (refine Go.lt' rfl ?_) | (refine Go.lf' rfl ?_) | ((with_reducible refine Go.bool ?_ ?_) <;> intro hc <;> (try simp only [List.length_map, ne_eq, hcs] at hc) <;> try (exfalso; omega)) | ((with_reducible refine Res.eq ?_ ?_); (· exact aFit)))
            refine ⟨⟨_, rfl, .inr ⟨n2 + 5, i64 0, rfl, by simp, ?_⟩⟩⟩
            have el : l.take x.events.length = l := by rw [← hln, List.take_length]
            rw [el, wC_one] at r5
            exact aRow
end Go.Proofs.Ytncllkpekbapjaa
