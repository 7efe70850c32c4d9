/- The walk of OrderDone. -/
import Derived.Test.YtncllkpekbapjaaQe
namespace Go.Proofs.Ytncllkpekbapjaa
open Go Go.Abs Go.Proofs
set_option linter.unusedSimpArgs false
set_option linter.unusedVariables false
set_option maxHeartbeats 8000000 in
theorem odone_pure (x : Exec) (hx : x.Wf) (pick : List Int) (hp : ∀ v ∈ pick, wf64 v) (hpl : pick.length * 8 ≤ 140737488351232) : Pure Try.prog 8 [x.av, imI pick] (fun r => r = bl true) := by
  refine Go.pure Try.func8 nm8 low8 res8 nt8 rfl ?_
  have hck := check_pure x hx
  cases hok : okB x with
  | false =>
    rw [okB_false hok] at hck
    repeat' (first | ((with_reducible refine Go.red ?_); conv => whnf) | with_reducible (first | refine Go.and ?_ ?_ | exact True.intro | refine Go.far ?_ | exact Go.askRep | refine Go.unroll ?_ | refine Go.drawn ?_) | ((with_reducible refine Apt.mk ?_); (try dsimp only); omega) | ((with_reducible refine Ask.mk ?_); first | exact aAsk | exact aAsk2) | ((with_reducible refine Go.ari64 ?_ ?_ ?_); (· exact aBnd); (· exact aBnd)) | ((with_reducible refine Go.ariu8 ?_ ?_ ?_); (· exact aBnd); (· exact aBnd)) | (with_reducible refine Go.ari0 ?_) | (apply Go.elem; (· exact aElem)) | (apply Go.row; (· exact aRow)) | (apply Go.map; (· exact aRow)) | (apply Go.gives; (· exact aGives)) | (apply Go.gives; (· exact aRes)) | ((with_reducible refine Go.callW (begins_pure) ?_ ?_); (· exact aFit)) | ((with_reducible refine Go.callJ (fun _ => begins_pure) ?_ ?_); (· exact aFit)) | ((with_reducible refine Go.callE (begins_pure) ?_ ?_); (· exact aFit)) | ((with_reducible refine Go.callF (fun _ => begins_pure) ?_ ?_); (· exact aFit)) | ((with_reducible refine Go.callW (hck) ?_ ?_); (· exact aFit)) | ((with_reducible refine Go.callJ (fun _ => hck) ?_ ?_); (· exact aFit)) | ((with_reducible refine Go.callE (hck) ?_ ?_); (· exact aFit)) | ((with_reducible refine Go.callF (fun _ => hck) ?_ ?_); (· exact aFit)) | (refine Go.gt rfl ?_) | (refine Go.gf rfl ?_) | (with_reducible refine Go.join ?_) | (refine Go.lt' rfl ?_) | (refine Go.lf' rfl ?_) | ((with_reducible refine Go.bool ?_ ?_) <;> intro hc <;> (try simp only [List.length_map, ne_eq, hcs] at hc) <;> try (exfalso; omega)) | ((with_reducible refine Res.eq ?_ ?_); (· exact aFit)))
    exact rfl
  | true =>
    rw [okB_true hok] at hck
    have h := fine_of hx hok
    have hfew := h.few
    repeat' (first | ((with_reducible refine Go.red ?_); conv => whnf) | with_reducible (first | refine Go.and ?_ ?_ | exact True.intro | refine Go.far ?_ | exact Go.askRep | refine Go.unroll ?_ | refine Go.drawn ?_) | ((with_reducible refine Apt.mk ?_); (try dsimp only); omega) | ((with_reducible refine Ask.mk ?_); first | exact aAsk | exact aAsk2 | (intro h; simp_all [Exec.cells] <;> fail) | (simp_all [Exec.cells] <;> fail)) | ((with_reducible refine Go.ari64 ?_ ?_ ?_); (· exact aBnd); (· exact aBnd)) | ((with_reducible refine Go.ariu8 ?_ ?_ ?_); (· exact aBnd); (· exact aBnd)) | (with_reducible refine Go.ari0 ?_) | (apply Go.elem; (· exact aElem)) | (apply Go.row; (· exact aRow)) | (apply Go.map; (· exact aRow)) | (apply Go.gives; (· exact aGives)) | (apply Go.gives; (· exact aRes)) | ((with_reducible refine Go.callW (begins_pure) ?_ ?_); (· exact aFit)) | ((with_reducible refine Go.callJ (fun _ => begins_pure) ?_ ?_); (· exact aFit)) | ((with_reducible refine Go.callE (begins_pure) ?_ ?_); (· exact aFit)) | ((with_reducible refine Go.callF (fun _ => begins_pure) ?_ ?_); (· exact aFit)) | ((with_reducible refine Go.callW (hck) ?_ ?_); (· exact aFit)) | ((with_reducible refine Go.callJ (fun _ => hck) ?_ ?_); (· exact aFit)) | ((with_reducible refine Go.callE (hck) ?_ ?_); (· exact aFit)) | ((with_reducible refine Go.callF (fun _ => hck) ?_ ?_); (· exact aFit)) | (refine Go.gt rfl ?_) | (refine Go.gf rfl ?_) | (with_reducible refine Go.join ?_) | (refine Go.lt' rfl ?_) | (refine Go.lf' rfl ?_) | ((with_reducible refine Go.bool ?_ ?_) <;> intro hc <;> (try simp only [List.length_map, ne_eq, hcs] at hc) <;> try (exfalso; omega)) | ((with_reducible refine Res.eq ?_ ?_); (· exact aFit)))
    refine Go.loop (fun p : (Nat → Bool) × List Int × AV => [(1, imI pick), (2, .pt 0 1 0 0), (7, i64 x.events.length), (8, .sl 16 x.events.length), (9, p.2.2)])
      (fun p H n => Half2 x p.1 p.2.1 ∧ 17 ≤ n ∧ getH H 0 = some (.row 27 4 .any [x.av]) ∧ getH H 16 = some (.row 4 1 (bl false) (doneB x.events.length p.1)) ∧ ((p.2.1 = [] ∧ p.2.2 = .sc (.slice none 0 0)) ∨ ∃ ob dO, p.2.1 ≠ [] ∧ p.2.2 = .sl ob p.2.1.length ∧ 17 ≤ ob ∧ ob < n ∧ getH H ob = some (.row 3 1 dO (p.2.1.map i64)))) (fun p => x.events.length - p.2.1.length) ((fun _ => false), [], .sc (.slice none 0 0)) (by rw [← List.length_map (f := Deed.av)]; exact aLess) ⟨Half2.nil x, aNx, aRow, by rw [← doneB_zero, ← List.length_map (f := Deed.av)]; exact aRow, .inl ⟨rfl, rfl⟩⟩ ?_
    rintro ⟨D, out, s⟩ H1 n1 ⟨hh, hn1, r0, rD, ho⟩
    dsimp only at hh rD ho ⊢
    have hcnt := hh.cnt
    rcases ho with ⟨rfl, rfl⟩ | ⟨ob, dO, ho, rfl, hob1, hob2, rO⟩
    · by_cases hn0 : x.events.length = 0
      · repeat' (first | ((with_reducible refine Go.red ?_); conv => whnf) | with_reducible (first | refine Go.and ?_ ?_ | exact True.intro | refine Go.far ?_ | exact Go.askRep | refine Go.unroll ?_ | refine Go.drawn ?_) | ((with_reducible refine Apt.mk ?_); (try dsimp only); omega) | ((with_reducible refine Ask.mk ?_); first | exact aAsk | exact aAsk2) | ((with_reducible refine Go.ari64 ?_ ?_ ?_); (· exact aBnd); (· exact aBnd)) | ((with_reducible refine Go.ariu8 ?_ ?_ ?_); (· exact aBnd); (· exact aBnd)) | (with_reducible refine Go.ari0 ?_) | (apply Go.elem; (· exact aElem)) | (apply Go.row; (· exact aRow)) | (apply Go.map; (· exact aRow)) | (apply Go.gives; (· exact aGives)) | (apply Go.gives; (· exact aRes)) | (refine Go.gt rfl ?_) | (refine Go.gf rfl ?_) | (with_reducible refine Go.join ?_) | (refine Go.lt' rfl ?_) | (refine Go.lf' rfl ?_) | ((with_reducible refine Go.bool ?_ ?_) <;> intro hc <;> (try simp only [List.length_map, ne_eq, hcs] at hc) <;> try (exfalso; omega)) | ((with_reducible refine Res.eq ?_ ?_); (· exact aFit)))
        have hlen : ([] : List Int).length = x.events.length := by simp only [List.length_nil]; omega
        have hL := hh.line hlen
        have hI := isL_of hL
        refine Go.callN (CallN.freshT (args2 := [x.av, (.sc (.slice none 0 0))]) (es := ((List.range x.events.length).map (gotF x ([] : List Int))).map i64) (cs := [i64 0]) (e := 3) (sz := 1) (reads_fresh x hx hok ([] : List Int) hL (.sc (.slice none 0 0)) (fun c => AVle.nilIm c c 1 _)) (fun i hi => by rw [getD_av (f := i64) (h := by simpa using hi)]; trivial) trivial .any (by simp only [List.map_cons, List.map_nil, frz_fit 6 (show fitA 0 x.av by simp [fitA]), frz_sc]) (by simp [fitL, fitA, fitL_map])).toN ?_
        rintro _ _ _ ⟨⟨rfl, rfl⟩, rfl⟩
        have hgl : ((List.range x.events.length).map (gotF x ([] : List Int))).length = x.events.length := by simp
        have hgg : ∀ j, j < x.events.length → ((List.range x.events.length).map (gotF x ([] : List Int))).getD j 0 = gotF x ([] : List Int) j := fun j hj => by simp [List.getD, hj]
        have hran := hI.ran
        have hfl := hx.firstlen
        have hal := hx.afterlen
        rw [h.afl] at hal
        have hpl := done_plain h hI (hh.ord)
        have hwf := done_wf hx h hI
        have hgot : ∀ i, i < x.events.length → gotF x ([] : List Int) i < 0 ∨ (0 ≤ gotF x ([] : List Int) i ∧ gotF x ([] : List Int) i < x.events.length) := fun i hi => by
          cases hr : (x.ev i).rd with
          | false =>
            obtain ⟨j, hj, e⟩ := hI.all i hi
            rw [got_at hI hi hj e, hr, if_neg (by decide)]; omega
          | true =>
            rcases got_spec h hI hi hr with ⟨g1, _⟩ | ⟨w, g1, g2, _⟩ <;> rw [g1] <;> omega
        generalize hG : (List.range x.events.length).map (gotF x ([] : List Int)) = G at *
        have hgm : (G.map i64).length = x.events.length := by rw [List.length_map, hgl]
        repeat' (first | ((with_reducible refine Go.red ?_); conv => whnf) | with_reducible (first | refine Go.and ?_ ?_ | exact True.intro | refine Go.far ?_ | exact Go.askRep | refine Go.unroll ?_ | refine Go.drawn ?_) | ((with_reducible refine Apt.mk ?_); (try dsimp only); omega) | ((with_reducible refine Ask.mk ?_); first | exact aAsk | (exact hgm) | exact aAsk2 | (intro h; simp_all [Exec.cells] <;> fail) | (simp_all [Exec.cells] <;> fail)) | ((with_reducible refine Go.ari64 ?_ ?_ ?_); (· exact aBnd); (· exact aBnd)) | ((with_reducible refine Go.ariu8 ?_ ?_ ?_); (· exact aBnd); (· exact aBnd)) | (with_reducible refine Go.ari0 ?_) | (apply Go.elem; (· exact aElem)) | (apply Go.row; (· exact aRow)) | (apply Go.map; (· exact aRow)) | (apply Go.gives; (· exact aGives)) | (apply Go.gives; (· exact aRes)) | (refine Go.gt rfl ?_) | (refine Go.gf rfl ?_) | (with_reducible refine Go.join ?_) | (refine Go.lt' rfl ?_) | (refine Go.lf' rfl ?_) | ((with_reducible refine Go.bool ?_ ?_) <;> intro hc <;> (try simp only [List.length_map, ne_eq, hcs] at hc) <;> try (exfalso; omega)) | ((with_reducible refine Res.eq ?_ ?_); (· exact aFit)))
        · rcases hc with hc | hc
          · exact absurd trivial hc
          · exact absurd (by rw [hgl]) hc
        simp only [List.length_map, Int.toNat_natCast]
        refine Go.loopT (fun i : Nat => [(2, .pt 0 1 0 0), (7, i64 x.events.length), (9, .sc (.slice none 0 0)), (15, .sl (n1 + 6) G.length), (16, .pt (n1 + 34) 1 0 0), (17, i64 i)])
          (fun i H n => i ≤ x.events.length ∧ n1 + 36 ≤ n ∧ getH H 0 = some (.row 27 4 .any [x.av]) ∧ (getH H (n1 + 6) = some (.row 3 1 .any (G.map i64)) ∧ (∃ d, getH H (n1 + 20) = some (.row 2 1 d (x.first.map i64))) ∧ (∃ d, getH H (n1 + 24) = some (.row 39 5 d (x.events.map Deed.av))) ∧
            (∃ d, getH H (n1 + 34) = some (.row 27 4 d [.agg [.sl (n1 + 20) (0 + x.first.length), .sl (n1 + 24) (0 + x.events.length), .sl (n1 + 6) G.length, .sl (n1 + 32) x.first.length]])) ∧
            ∃ ids, QAt 24 3 1 (n1 + 32) ids (SI (afS x ([] : List Int) i)) H ∧ ∀ y ∈ ids, n1 + 36 ≤ y ∧ y < n)) (fun i => x.events.length - i) 0 aLess
          ⟨_, _, Wk.born (te := 24) (e := 3) (sz := 1) (b := n1 + 32) (n := x.first.length) aNx (by omega) aRow, Nat.zero_le _, aNx, (bornH_at aNx (by omega)).trans aRow, (bornH_at aNx (by omega)).trans aRow, ⟨_, (bornH_at aNx (by omega)).trans aRow⟩, ⟨_, (bornH_at aNx (by omega)).trans aRow⟩, ⟨_, (bornH_at aNx (by omega)).trans aRow⟩, _, by rw [afS_zero, show SI (List.replicate x.first.length []) = List.replicate x.first.length [] by simp [SI]]; exact QAt.born aNx, fun y hy => ?_⟩ ?_
        · simp only [List.mem_map, List.mem_range] at hy
          obtain ⟨i, hi, rfl⟩ := hy
          exact ⟨aNx, by omega⟩
        rintro i H2 n2 ⟨hi, hn2, r02, rG, ⟨dF, rF⟩, ⟨dE, rE⟩, ⟨dY, rY⟩, ids, hQ, hids⟩
        by_cases hil : i < x.events.length
        · exact absurd hil (by omega)
        · have hie : i = x.events.length := by omega
          subst hie
          repeat' (first | ((with_reducible refine Go.red ?_); conv => whnf) | with_reducible (first | refine Go.and ?_ ?_ | exact True.intro | refine Go.far ?_ | exact Go.askRep | refine Go.unroll ?_ | refine Go.drawn ?_) | ((with_reducible refine Apt.mk ?_); (try dsimp only); omega) | ((with_reducible refine Ask.mk ?_); first | exact aAsk | exact aAsk2) | ((with_reducible refine Go.ari64 ?_ ?_ ?_); (· exact aBnd); (· exact aBnd)) | ((with_reducible refine Go.ariu8 ?_ ?_ ?_); (· exact aBnd); (· exact aBnd)) | (with_reducible refine Go.ari0 ?_) | (apply Go.elem; (· exact aElem)) | (apply Go.row; (· exact aRow)) | (apply Go.map; (· exact aRow)) | (apply Go.gives; (· exact aGives)) | (apply Go.gives; (· exact aRes)) | (refine Go.gt rfl ?_) | (refine Go.gf rfl ?_) | (with_reducible refine Go.join ?_) | (refine Go.lt' rfl ?_) | (refine Go.lf' rfl ?_) | ((with_reducible refine Go.bool ?_ ?_) <;> intro hc <;> (try simp only [List.length_map, ne_eq, hcs] at hc) <;> try (exfalso; omega)) | ((with_reducible refine Res.eq ?_ ?_); (· exact aFit)))
          refine Go.loop (fun i : Nat => [(2, .pt 0 1 0 0), (7, i64 x.events.length), (15, .sl (n1 + 6) G.length), (16, .pt (n1 + 34) 1 0 0), (19, i64 i)])
            (fun i H n => i ≤ x.events.length ∧ n2 ≤ n ∧ getH H 0 = some (.row 27 4 .any [x.av]) ∧ getH H (n1 + 6) = some (.row 3 1 .any (G.map i64)) ∧ (∃ d, getH H (n1 + 20) = some (.row 2 1 d (x.first.map i64))) ∧ (∃ d, getH H (n1 + 24) = some (.row 39 5 d ((evMix x ([] : List Int) i).map Deed.av))) ∧
              (∃ d, getH H (n1 + 34) = some (.row 27 4 d [.agg [.sl (n1 + 20) (0 + x.first.length), .sl (n1 + 24) (0 + x.events.length), .sl (n1 + 6) G.length, .sl (n1 + 32) x.first.length]])) ∧
              QAt 24 3 1 (n1 + 32) ids (SI (afS x ([] : List Int) x.events.length)) H) (fun i => x.events.length - i) 0 aLess ⟨Nat.zero_le _, aNx, aRow, aRow, ⟨_, aRow⟩, ⟨_, by rw [evMix_zero]; exact aRow⟩, ⟨_, aRow⟩, hQ.keep (fun y hy => by
                have hy2 : n1 + 32 ≤ y ∧ y ≠ n1 + 34 := by
                  rcases List.mem_cons.1 hy with rfl | hy
                  · omega
                  · have := hids y hy; omega
                exact aSkip)⟩ ?_
          rintro i H3 n3 ⟨hi, hn3, r03, rG3, ⟨dF3, rF3⟩, ⟨dE3, rE3⟩, ⟨dY3, rY3⟩, hQ3⟩
          by_cases hil : i < x.events.length
          · exact absurd hil (by omega)
          · have hie : i = x.events.length := by omega
            subst hie
            repeat' (first | ((with_reducible refine Go.red ?_); conv => whnf) | with_reducible (first | refine Go.and ?_ ?_ | exact True.intro | refine Go.far ?_ | exact Go.askRep | refine Go.unroll ?_ | refine Go.drawn ?_) | ((with_reducible refine Apt.mk ?_); (try dsimp only); omega) | ((with_reducible refine Ask.mk ?_); first | exact aAsk | exact aAsk2) | ((with_reducible refine Go.ari64 ?_ ?_ ?_); (· exact aBnd); (· exact aBnd)) | ((with_reducible refine Go.ariu8 ?_ ?_ ?_); (· exact aBnd); (· exact aBnd)) | (with_reducible refine Go.ari0 ?_) | (apply Go.elem; (· exact aElem)) | (apply Go.row; (· exact aRow)) | (apply Go.map; (· exact aRow)) | (apply Go.gives; (· exact aGives)) | (apply Go.gives; (· exact aRes)) | (refine Go.gt rfl ?_) | (refine Go.gf rfl ?_) | (with_reducible refine Go.join ?_) | (refine Go.lt' rfl ?_) | (refine Go.lf' rfl ?_) | ((with_reducible refine Go.bool ?_ ?_) <;> intro hc <;> (try simp only [List.length_map, ne_eq, hcs] at hc) <;> try (exfalso; omega)) | ((with_reducible refine Res.eq ?_ ?_); (· exact aFit)))
            have hQ4 : QAt 24 3 1 (n1 + 32) ids (SI (doneX x ([] : List Int)).after) H3 := by rw [← afS_all hlen]; exact hQ3
            rw [evMix_all] at rE3
            have hnn : x.events.length = (doneX x ([] : List Int)).events.length := doneX_len.symm
            refine Go.view (args2 := [(doneX x ([] : List Int)).fz]) (r := .tup [bl true, i64 0]) ((plain_done x ([] : List Int) hwf hpl).args fun c => .cons (le_fz c _) .nil) ?_ (by simp [fitL]) (flat_plain _ _) ?_
            · refine frz_exec (t1 := 2) (t2 := 39) (d1 := dF3) (d2 := dE3) (d3 := .any) ?_ ?_ (by rw [show (doneX x ([] : List Int)).frm = G from hG]; exact aRow) (hQ4.keep fun y hy => ?_) ?_ ?_ (by rw [show (doneX x ([] : List Int)).frm = G from hG]) (by simp [doneX])
              · exact aRow
              · exact aRow
              · exact aSkip
              · rw [Nat.zero_add]; rfl
              · rw [Nat.zero_add]; exact doneX_len
            repeat' (first | ((with_reducible refine Go.red ?_); conv => whnf) | with_reducible (first | refine Go.and ?_ ?_ | exact True.intro | refine Go.far ?_ | exact Go.askRep | refine Go.unroll ?_ | refine Go.drawn ?_) | ((with_reducible refine Apt.mk ?_); (try dsimp only); omega) | ((with_reducible refine Ask.mk ?_); first | exact aAsk | exact aAsk2) | ((with_reducible refine Go.ari64 ?_ ?_ ?_); (· exact aBnd); (· exact aBnd)) | ((with_reducible refine Go.ariu8 ?_ ?_ ?_); (· exact aBnd); (· exact aBnd)) | (with_reducible refine Go.ari0 ?_) | (apply Go.elem; (· exact aElem)) | (apply Go.row; (· exact aRow)) | (apply Go.map; (· exact aRow)) | (apply Go.gives; (· exact aGives)) | (apply Go.gives; (· exact aRes)) | (refine Go.gt rfl ?_) | (refine Go.gf rfl ?_) | (with_reducible refine Go.join ?_) | (refine Go.lt' rfl ?_) | (refine Go.lf' rfl ?_) | ((with_reducible refine Go.bool ?_ ?_) <;> intro hc <;> (try simp only [List.length_map, ne_eq, hcs] at hc) <;> try (exfalso; omega)) | ((with_reducible refine Res.eq ?_ ?_); (· exact aFit)))
            exact rfl
      · repeat' (first | ((with_reducible refine Go.red ?_); conv => whnf) | with_reducible (first | refine Go.and ?_ ?_ | exact True.intro | refine Go.far ?_ | exact Go.askRep | refine Go.unroll ?_ | refine Go.drawn ?_) | ((with_reducible refine Apt.mk ?_); (try dsimp only); omega) | ((with_reducible refine Ask.mk ?_); first | exact aAsk | exact aAsk2) | ((with_reducible refine Go.ari64 ?_ ?_ ?_); (· exact aBnd); (· exact aBnd)) | ((with_reducible refine Go.ariu8 ?_ ?_ ?_); (· exact aBnd); (· exact aBnd)) | (with_reducible refine Go.ari0 ?_) | (apply Go.elem; (· exact aElem)) | (apply Go.row; (· exact aRow)) | (apply Go.map; (· exact aRow)) | (apply Go.gives; (· exact aGives)) | (apply Go.gives; (· exact aRes)) | (refine Go.gt rfl ?_) | (refine Go.gf rfl ?_) | (with_reducible refine Go.join ?_) | (refine Go.lt' rfl ?_) | (refine Go.lf' rfl ?_) | ((with_reducible refine Go.bool ?_ ?_) <;> intro hc <;> (try simp only [List.length_map, ne_eq, hcs] at hc) <;> try (exfalso; omega)) | ((with_reducible refine Res.eq ?_ ?_); (· exact aFit)))
        refine Go.loop (fun p : Nat × AV => [(1, imI pick), (2, .pt 0 1 0 0), (7, i64 x.events.length), (8, .sl 16 x.events.length), (9, .sc (.slice none 0 0)), (10, p.2), (11, i64 p.1)])
          (fun p H n => p.1 ≤ x.events.length ∧ n1 ≤ n ∧ getH H 0 = some (.row 27 4 .any [x.av]) ∧ getH H 16 = some (.row 4 1 (bl false) (doneB x.events.length D)) ∧ ((freeL x D p.1 = [] ∧ p.2 = .sc (.slice none 0 0)) ∨ ∃ fb dF, freeL x D p.1 ≠ [] ∧ p.2 = .sl fb (freeL x D p.1).length ∧ n1 ≤ fb ∧ fb < n ∧ getH H fb = some (.row 3 1 dF ((freeL x D p.1).map i64)))) (fun p => x.events.length - p.1) (0, .sc (.slice none 0 0)) aLess ⟨Nat.zero_le _, aNx, aRow, aRow, .inl ⟨rfl, rfl⟩⟩ ?_
        rintro ⟨i, sf⟩ H2 n2 ⟨hi, hn2, r02, rD2, hfree⟩
        dsimp only at hi hfree ⊢
        by_cases hil : i < x.events.length
        · repeat' (first | ((with_reducible refine Go.red ?_); conv => whnf) | with_reducible (first | refine Go.and ?_ ?_ | exact True.intro | refine Go.far ?_ | exact Go.askRep | refine Go.unroll ?_ | refine Go.drawn ?_) | ((with_reducible refine Apt.mk ?_); (try dsimp only); omega) | ((with_reducible refine Ask.mk ?_); first | exact aAsk | (exact And.intro (doneB_len _ _) rfl) | (exact doneB_len _ _) | (exact fun _ => And.intro (doneB_len _ _) rfl) | (exact fun _ => doneB_len _ _) | exact aAsk2) | ((with_reducible refine Go.ari64 ?_ ?_ ?_); (· exact aBnd); (· exact aBnd)) | ((with_reducible refine Go.ariu8 ?_ ?_ ?_); (· exact aBnd); (· exact aBnd)) | (with_reducible refine Go.ari0 ?_) | (apply Go.elem; (· (first | exact doneB_get (by omega) _ | exact ev_get | exact aElem))) | (apply Go.row; (· exact aRow)) | (apply Go.map; (· exact aRow)) | (apply Go.gives; (· exact aGives)) | (apply Go.gives; (· exact aRes)) | (refine Go.gt rfl ?_) | (refine Go.gf rfl ?_) | (with_reducible refine Go.join ?_) | (refine Go.lt' rfl ?_) | (refine Go.lf' rfl ?_) | ((with_reducible refine Go.bool ?_ ?_) <;> intro hc <;> (try simp only [List.length_map, ne_eq, hcs] at hc) <;> try (exfalso; omega)) | ((with_reducible refine Res.eq ?_ ?_); (· exact aFit)))
          refine Go.loop (fun p : Nat => [(1, imI pick), (2, .pt 0 1 0 0), (7, i64 x.events.length), (8, .sl 16 x.events.length), (9, .sc (.slice none 0 0)), (10, sf), (11, i64 i), (12, bl (preT x D i p)), (13, i64 p)])
            (fun p H n => p ≤ i ∧ n2 ≤ n ∧ getH H 0 = some (.row 27 4 .any [x.av]) ∧ getH H 16 = some (.row 4 1 (bl false) (doneB x.events.length D)) ∧ (∀ y, y < n2 → getH H y = getH H2 y)) (fun p => i - p) 0 (by rw [preT_zero]; exact aLess) ⟨Nat.zero_le _, aNx, aRow, aRow, aKeep⟩ ?_
          rintro j H3 n3 ⟨hj, hn3, r03, rD3, hk3⟩
          by_cases hji : j < i
          · repeat' (first | ((with_reducible refine Go.red ?_); conv => whnf) | with_reducible (first | refine Go.and ?_ ?_ | exact True.intro | refine Go.far ?_ | exact Go.askRep | refine Go.unroll ?_ | refine Go.drawn ?_) | ((with_reducible refine Apt.mk ?_); (try dsimp only); omega) | ((with_reducible refine Ask.mk ?_); first | exact aAsk | (exact And.intro (doneB_len _ _) rfl) | (exact doneB_len _ _) | (exact fun _ => And.intro (doneB_len _ _) rfl) | (exact fun _ => doneB_len _ _) | exact aAsk2 | (intro h; simp_all [Exec.cells, Deed.cells] <;> fail) | (simp_all [Exec.cells, Deed.cells] <;> fail)) | ((with_reducible refine Go.ari64 ?_ ?_ ?_); (· exact aBnd); (· exact aBnd)) | ((with_reducible refine Go.ariu8 ?_ ?_ ?_); (· exact aBnd); (· exact aBnd)) | (with_reducible refine Go.ari0 ?_) | (apply Go.elem; (· (first | exact doneB_get (by omega) _ | exact ev_get | exact aElem))) | (apply Go.row; (· exact aRow)) | (apply Go.map; (· exact aRow)) | (apply Go.gives; (· exact aGives)) | (apply Go.gives; (· exact aRes)) | (refine Go.gt rfl ?_) | (refine Go.gf rfl ?_) | (with_reducible refine Go.join ?_) | (refine Go.lt' rfl ?_) | (refine Go.lf' rfl ?_) | ((with_reducible refine Go.bool ?_ ?_) <;> intro hc <;> (try simp only [List.length_map, ne_eq, hcs] at hc) <;> try (exfalso; omega)) | ((with_reducible refine Res.eq ?_ ?_); (· exact aFit)))
            refine ⟨j + 1, by omega, ?_, by omega, aNx, aRow, aRow, fun y hy => Eq.trans aSkip (hk3 y hy)⟩
            have e : preT x D i (j + 1) = if preT x D i j = true then (if D j = true then true else decide ((x.ev j).thread ≠ (x.ev i).thread)) else false := by rw [preT_succ]; cases preT x D i j <;> cases D j <;> simp
            rw [e]
            exact aLess
          · have hje : j = i := by omega
            subst hje
            have hfs := freeL_succ (x := x) (D := D) (i := j)
            have hfl := freeL_len (x := x) (D := D) (i := j)
            cases hpt : preT x D j j with
            | false =>
              rw [hpt, if_neg (by decide), List.append_nil] at hfs
              repeat' (first | ((with_reducible refine Go.red ?_); conv => whnf) | with_reducible (first | refine Go.and ?_ ?_ | exact True.intro | refine Go.far ?_ | exact Go.askRep | refine Go.unroll ?_ | refine Go.drawn ?_) | ((with_reducible refine Apt.mk ?_); (try dsimp only); omega) | ((with_reducible refine Ask.mk ?_); first | exact aAsk | exact aAsk2) | ((with_reducible refine Go.ari64 ?_ ?_ ?_); (· exact aBnd); (· exact aBnd)) | ((with_reducible refine Go.ariu8 ?_ ?_ ?_); (· exact aBnd); (· exact aBnd)) | (with_reducible refine Go.ari0 ?_) | (apply Go.elem; (· exact aElem)) | (apply Go.row; (· exact aRow)) | (apply Go.map; (· exact aRow)) | (apply Go.gives; (· exact aGives)) | (apply Go.gives; (· exact aRes)) | (refine Go.gt rfl ?_) | (refine Go.gf rfl ?_) | (with_reducible refine Go.join ?_) | (refine Go.lt' rfl ?_) | (refine Go.lf' rfl ?_) | ((with_reducible refine Go.bool ?_ ?_) <;> intro hc <;> (try simp only [List.length_map, ne_eq, hcs] at hc) <;> try (exfalso; omega)) | ((with_reducible refine Res.eq ?_ ?_); (· exact aFit)))
              refine ⟨(j + 1, sf), by dsimp only; omega, aLess, by dsimp only; omega, aNx, aRow, aRow, ?_⟩
              dsimp only
              rw [hfs]
              rcases hfree with hfree | ⟨fb, dF, f1, f2, f3, f4, f5⟩
              · exact .inl hfree
              · exact .inr ⟨fb, dF, f1, f2, f3, aNx, Eq.trans aSkip ((hk3 fb f4).trans f5)⟩
            | true =>
              rw [hpt, if_pos rfl] at hfs
              rcases hfree with ⟨f1, rfl⟩ | ⟨fb, dF, f1, rfl, hfb1, hfb2, f5⟩
              · rw [f1, List.nil_append] at hfs
                repeat' (first | ((with_reducible refine Go.red ?_); conv => whnf) | with_reducible (first | refine Go.and ?_ ?_ | exact True.intro | refine Go.far ?_ | exact Go.askRep | refine Go.unroll ?_ | refine Go.drawn ?_) | ((with_reducible refine Apt.mk ?_); (try dsimp only); omega) | ((with_reducible refine Ask.mk ?_); first | exact aAsk | exact aAsk2) | ((with_reducible refine Go.ari64 ?_ ?_ ?_); (· exact aBnd); (· exact aBnd)) | ((with_reducible refine Go.ariu8 ?_ ?_ ?_); (· exact aBnd); (· exact aBnd)) | (with_reducible refine Go.ari0 ?_) | (apply Go.elem; (· exact aElem)) | (apply Go.row; (· exact aRow)) | (apply Go.map; (· exact aRow)) | (apply Go.gives; (· exact aGives)) | (apply Go.gives; (· exact aRes)) | (refine Go.gt rfl ?_) | (refine Go.gf rfl ?_) | (with_reducible refine Go.join ?_) | (refine Go.lt' rfl ?_) | (refine Go.lf' rfl ?_) | ((with_reducible refine Go.bool ?_ ?_) <;> intro hc <;> (try simp only [List.length_map, ne_eq, hcs] at hc) <;> try (exfalso; omega)) | ((with_reducible refine Res.eq ?_ ?_); (· exact aFit)))
                refine ⟨(j + 1, .sl (n3 + 7) 1), by dsimp only; omega, aLess, by dsimp only; omega, aNx, aRow, aRow, .inr ⟨(n3 + 7), _, by rw [hfs]; simp, by rw [hfs]; rfl, by omega, aNx, by rw [hfs]; exact aRow⟩⟩
              · have f6 := (hk3 fb hfb2).trans f5
                repeat' (first | ((with_reducible refine Go.red ?_); conv => whnf) | with_reducible (first | refine Go.and ?_ ?_ | exact True.intro | refine Go.far ?_ | exact Go.askRep | refine Go.unroll ?_ | refine Go.drawn ?_) | ((with_reducible refine Apt.mk ?_); (try dsimp only); omega) | ((with_reducible refine Ask.mk ?_); first | exact aAsk | exact aAsk2) | ((with_reducible refine Go.ari64 ?_ ?_ ?_); (· exact aBnd); (· exact aBnd)) | ((with_reducible refine Go.ariu8 ?_ ?_ ?_); (· exact aBnd); (· exact aBnd)) | (with_reducible refine Go.ari0 ?_) | (apply Go.elem; (· exact aElem)) | (apply Go.row; (· exact aRow)) | (apply Go.map; (· exact aRow)) | (apply Go.gives; (· exact aGives)) | (apply Go.gives; (· exact aRes)) | (refine Go.gt rfl ?_) | (refine Go.gf rfl ?_) | (with_reducible refine Go.join ?_) | (refine Go.lt' rfl ?_) | (refine Go.lf' rfl ?_) | ((with_reducible refine Go.bool ?_ ?_) <;> intro hc <;> (try simp only [List.length_map, ne_eq, hcs] at hc) <;> try (exfalso; omega)) | ((with_reducible refine Res.eq ?_ ?_); (· exact aFit)))
                refine ⟨(j + 1, .sl fb ((freeL x D j).length + 1)), by dsimp only; omega, aLess, by dsimp only; omega, aNx, aRow, aRow, .inr ⟨fb, _, by rw [hfs]; simp, by rw [hfs, List.length_append]; rfl, hfb1, aNx, by rw [hfs, List.map_append]; exact aRow⟩⟩
        · have hie : i = x.events.length := by omega
          subst hie
          have hfl := freeL_len (x := x) (D := D) (i := x.events.length)
          have hfp := freeL_pos (x := x) (D := D) (n := x.events.length) (by have h1 := hh.cnt; have h2 := hn0; simp only [List.length_nil] at h1; omega)
          rcases hfree with ⟨f1, rfl⟩ | ⟨fb, dF, f1, rfl, hfb1, hfb2, f5⟩
          · rw [f1] at hfp; simp at hfp
          · have hlf : (freeL x D x.events.length).length ≤ x.events.length := hfl
            have hdn : ∀ m : Nat, m < (freeL x D x.events.length).length → ∃ a : Nat, (freeL x D x.events.length).getD m 0 = (a : Int) ∧ a < x.events.length ∧ preT x D a a = true := fun m hm => by
              have := freeL_mem.1 (getD_mem' 0 hm)
              exact ⟨((freeL x D x.events.length).getD m 0).toNat, by omega, by omega, this.2⟩
            by_cases hpk : 0 < pick.length ∧ 0 ≤ pick.getD (Int.toNat 0) 0
            · have hMr : 0 ≤ (pick.getD (Int.toNat 0) 0).tmod ((freeL x D x.events.length).length : Nat) ∧ (pick.getD (Int.toNat 0) 0).tmod ((freeL x D x.events.length).length : Nat) < ((freeL x D x.events.length).length : Nat) := by
                refine ⟨Int.tmod_nonneg _ ?_, Int.tmod_lt_of_pos _ (by omega)⟩
                simp only [Int.toNat_natCast, Int.toNat_zero]
                exact hpk.2
              obtain ⟨a, ha1, ha2, ha3⟩ := hdn ((pick.getD (Int.toNat 0) 0).tmod ((freeL x D x.events.length).length : Nat)).toNat (by omega)
              have hga : ∀ d, ((freeL x D x.events.length).map i64).getD ((pick.getD (Int.toNat 0) 0).tmod ((freeL x D x.events.length).length : Nat)).toNat d = i64 (a : Int) := fun d => by rw [int_getD (by omega), ha1]
              have hnx := hh.next ha2 ha3
              repeat' (first | ((with_reducible refine Go.red ?_); conv => whnf) | with_reducible (first | refine Go.and ?_ ?_ | exact True.intro | refine Go.far ?_ | exact Go.askRep | refine Go.unroll ?_ | refine Go.drawn ?_) | ((with_reducible refine Apt.mk ?_); (try dsimp only); omega) | ((with_reducible refine Ask.mk ?_); first | exact aAsk | (exact And.intro (doneB_len _ _) rfl) | (exact doneB_len _ _) | (exact fun _ => And.intro (doneB_len _ _) rfl) | (exact fun _ => doneB_len _ _) | exact aAsk2) | ((with_reducible refine Go.ari64 ?_ ?_ ?_); (· exact aBnd); (· exact aBnd)) | ((with_reducible refine Go.ariu8 ?_ ?_ ?_); (· exact aBnd); (· exact aBnd)) | (with_reducible refine Go.ari0 ?_) | (apply Go.elem; (· (first | exact hga _ | exact int_get | exact doneB_get (by omega) _ | exact aElem))) | (apply Go.row; (· exact aRow)) | (apply Go.map; (· exact aRow)) | (apply Go.gives; (· exact aGives)) | (apply Go.gives; (· exact aRes)) | (refine Go.gt rfl ?_) | (refine Go.gf rfl ?_) | (with_reducible refine Go.join ?_) | (refine Go.lt' rfl ?_) | (refine Go.lf' rfl ?_) | ((with_reducible refine Go.bool ?_ ?_) <;> intro hc <;> (try simp only [List.length_map, ne_eq, hcs] at hc) <;> try (exfalso; omega)) | ((with_reducible refine Res.eq ?_ ?_); (· exact aFit)))
              refine ⟨(setD D a, [(a : Int)], .sl ((n2 + 39)) 1), by dsimp only; simp only [List.length_cons, List.length_nil]; omega, aLess, by rw [List.nil_append] at hnx; exact hnx, aNx, aRow, by dsimp only; rw [← doneB_set ha2]; exact aRow, .inr ⟨(n2 + 39), _, by simp, rfl, by omega, aNx, aRow⟩⟩
            · obtain ⟨a, ha1, ha2, ha3⟩ := hdn 0 hfp
              have hga : ∀ d, ((freeL x D x.events.length).map i64).getD (Int.toNat 0) d = i64 (a : Int) := fun d => by rw [Int.toNat_zero, int_getD hfp, ha1]
              have hnx := hh.next ha2 ha3
              repeat' (first | ((with_reducible refine Go.red ?_); conv => whnf) | with_reducible (first | refine Go.and ?_ ?_ | exact True.intro | refine Go.far ?_ | exact Go.askRep | refine Go.unroll ?_ | refine Go.drawn ?_) | ((with_reducible refine Apt.mk ?_); (try dsimp only); omega) | ((with_reducible refine Ask.mk ?_); first | exact aAsk | (exact And.intro (doneB_len _ _) rfl) | (exact doneB_len _ _) | (exact fun _ => And.intro (doneB_len _ _) rfl) | (exact fun _ => doneB_len _ _) | exact aAsk2) | ((with_reducible refine Go.ari64 ?_ ?_ ?_); (· exact aBnd); (· exact aBnd)) | ((with_reducible refine Go.ariu8 ?_ ?_ ?_); (· exact aBnd); (· exact aBnd)) | (with_reducible refine Go.ari0 ?_) | (apply Go.elem; (· (first | exact hga _ | exact int_get | exact doneB_get (by omega) _ | exact aElem))) | (apply Go.row; (· exact aRow)) | (apply Go.map; (· exact aRow)) | (apply Go.gives; (· exact aGives)) | (apply Go.gives; (· exact aRes)) | (refine Go.gt rfl ?_) | (refine Go.gf rfl ?_) | (with_reducible refine Go.join ?_) | (refine Go.lt' rfl ?_) | (refine Go.lf' rfl ?_) | ((with_reducible refine Go.bool ?_ ?_) <;> intro hc <;> (try simp only [List.length_map, ne_eq, hcs] at hc) <;> try (exfalso; omega)) | ((with_reducible refine Res.eq ?_ ?_); (· exact aFit)))
              refine ⟨(setD D a, [(a : Int)], .sl ((n2 + 30)) 1), by dsimp only; simp only [List.length_cons, List.length_nil]; omega, aLess, by rw [List.nil_append] at hnx; exact hnx, aNx, aRow, by dsimp only; rw [← doneB_set ha2]; exact aRow, .inr ⟨(n2 + 30), _, by simp, rfl, by omega, aNx, aRow⟩⟩
    · by_cases hlt : out.length < x.events.length
      · repeat' (first | ((with_reducible refine Go.red ?_); conv => whnf) | with_reducible (first | refine Go.and ?_ ?_ | exact True.intro | refine Go.far ?_ | exact Go.askRep | refine Go.unroll ?_ | refine Go.drawn ?_) | ((with_reducible refine Apt.mk ?_); (try dsimp only); omega) | ((with_reducible refine Ask.mk ?_); first | exact aAsk | exact aAsk2) | ((with_reducible refine Go.ari64 ?_ ?_ ?_); (· exact aBnd); (· exact aBnd)) | ((with_reducible refine Go.ariu8 ?_ ?_ ?_); (· exact aBnd); (· exact aBnd)) | (with_reducible refine Go.ari0 ?_) | (apply Go.elem; (· exact aElem)) | (apply Go.row; (· exact aRow)) | (apply Go.map; (· exact aRow)) | (apply Go.gives; (· exact aGives)) | (apply Go.gives; (· exact aRes)) | (refine Go.gt rfl ?_) | (refine Go.gf rfl ?_) | (with_reducible refine Go.join ?_) | (refine Go.lt' rfl ?_) | (refine Go.lf' rfl ?_) | ((with_reducible refine Go.bool ?_ ?_) <;> intro hc <;> (try simp only [List.length_map, ne_eq, hcs] at hc) <;> try (exfalso; omega)) | ((with_reducible refine Res.eq ?_ ?_); (· exact aFit)))
        refine Go.loop (fun p : Nat × AV => [(1, imI pick), (2, .pt 0 1 0 0), (7, i64 x.events.length), (8, .sl 16 x.events.length), (9, .sl ob out.length), (10, p.2), (11, i64 p.1)])
          (fun p H n => p.1 ≤ x.events.length ∧ n1 ≤ n ∧ getH H 0 = some (.row 27 4 .any [x.av]) ∧ getH H 16 = some (.row 4 1 (bl false) (doneB x.events.length D)) ∧ getH H ob = some (.row 3 1 dO (out.map i64)) ∧ ((freeL x D p.1 = [] ∧ p.2 = .sc (.slice none 0 0)) ∨ ∃ fb dF, freeL x D p.1 ≠ [] ∧ p.2 = .sl fb (freeL x D p.1).length ∧ n1 ≤ fb ∧ fb < n ∧ getH H fb = some (.row 3 1 dF ((freeL x D p.1).map i64)))) (fun p => x.events.length - p.1) (0, .sc (.slice none 0 0)) aLess ⟨Nat.zero_le _, aNx, aRow, aRow, aRow, .inl ⟨rfl, rfl⟩⟩ ?_
        rintro ⟨i, sf⟩ H2 n2 ⟨hi, hn2, r02, rD2, rO2, hfree⟩
        dsimp only at hi hfree ⊢
        by_cases hil : i < x.events.length
        · repeat' (first | ((with_reducible refine Go.red ?_); conv => whnf) | with_reducible (first | refine Go.and ?_ ?_ | exact True.intro | refine Go.far ?_ | exact Go.askRep | refine Go.unroll ?_ | refine Go.drawn ?_) | ((with_reducible refine Apt.mk ?_); (try dsimp only); omega) | ((with_reducible refine Ask.mk ?_); first | exact aAsk | (exact And.intro (doneB_len _ _) rfl) | (exact doneB_len _ _) | (exact fun _ => And.intro (doneB_len _ _) rfl) | (exact fun _ => doneB_len _ _) | exact aAsk2) | ((with_reducible refine Go.ari64 ?_ ?_ ?_); (· exact aBnd); (· exact aBnd)) | ((with_reducible refine Go.ariu8 ?_ ?_ ?_); (· exact aBnd); (· exact aBnd)) | (with_reducible refine Go.ari0 ?_) | (apply Go.elem; (· (first | exact doneB_get (by omega) _ | exact ev_get | exact aElem))) | (apply Go.row; (· exact aRow)) | (apply Go.map; (· exact aRow)) | (apply Go.gives; (· exact aGives)) | (apply Go.gives; (· exact aRes)) | (refine Go.gt rfl ?_) | (refine Go.gf rfl ?_) | (with_reducible refine Go.join ?_) | (refine Go.lt' rfl ?_) | (refine Go.lf' rfl ?_) | ((with_reducible refine Go.bool ?_ ?_) <;> intro hc <;> (try simp only [List.length_map, ne_eq, hcs] at hc) <;> try (exfalso; omega)) | ((with_reducible refine Res.eq ?_ ?_); (· exact aFit)))
          refine Go.loop (fun p : Nat => [(1, imI pick), (2, .pt 0 1 0 0), (7, i64 x.events.length), (8, .sl 16 x.events.length), (9, .sl ob out.length), (10, sf), (11, i64 i), (12, bl (preT x D i p)), (13, i64 p)])
            (fun p H n => p ≤ i ∧ n2 ≤ n ∧ getH H 0 = some (.row 27 4 .any [x.av]) ∧ getH H 16 = some (.row 4 1 (bl false) (doneB x.events.length D)) ∧ getH H ob = some (.row 3 1 dO (out.map i64)) ∧ (∀ y, y < n2 → getH H y = getH H2 y)) (fun p => i - p) 0 (by rw [preT_zero]; exact aLess) ⟨Nat.zero_le _, aNx, aRow, aRow, aRow, aKeep⟩ ?_
          rintro j H3 n3 ⟨hj, hn3, r03, rD3, rO3, hk3⟩
          by_cases hji : j < i
          · repeat' (first | ((with_reducible refine Go.red ?_); conv => whnf) | with_reducible (first | refine Go.and ?_ ?_ | exact True.intro | refine Go.far ?_ | exact Go.askRep | refine Go.unroll ?_ | refine Go.drawn ?_) | ((with_reducible refine Apt.mk ?_); (try dsimp only); omega) | ((with_reducible refine Ask.mk ?_); first | exact aAsk | (exact And.intro (doneB_len _ _) rfl) | (exact doneB_len _ _) | (exact fun _ => And.intro (doneB_len _ _) rfl) | (exact fun _ => doneB_len _ _) | exact aAsk2 | (intro h; simp_all [Exec.cells, Deed.cells] <;> fail) | (simp_all [Exec.cells, Deed.cells] <;> fail)) | ((with_reducible refine Go.ari64 ?_ ?_ ?_); (· exact aBnd); (· exact aBnd)) | ((with_reducible refine Go.ariu8 ?_ ?_ ?_); (· exact aBnd); (· exact aBnd)) | (with_reducible refine Go.ari0 ?_) | (apply Go.elem; (· (first | exact doneB_get (by omega) _ | exact ev_get | exact aElem))) | (apply Go.row; (· exact aRow)) | (apply Go.map; (· exact aRow)) | (apply Go.gives; (· exact aGives)) | (apply Go.gives; (· exact aRes)) | (refine Go.gt rfl ?_) | (refine Go.gf rfl ?_) | (with_reducible refine Go.join ?_) | (refine Go.lt' rfl ?_) | (refine Go.lf' rfl ?_) | ((with_reducible refine Go.bool ?_ ?_) <;> intro hc <;> (try simp only [List.length_map, ne_eq, hcs] at hc) <;> try (exfalso; omega)) | ((with_reducible refine Res.eq ?_ ?_); (· exact aFit)))
            refine ⟨j + 1, by omega, ?_, by omega, aNx, aRow, aRow, aRow, fun y hy => Eq.trans aSkip (hk3 y hy)⟩
            have e : preT x D i (j + 1) = if preT x D i j = true then (if D j = true then true else decide ((x.ev j).thread ≠ (x.ev i).thread)) else false := by rw [preT_succ]; cases preT x D i j <;> cases D j <;> simp
            rw [e]
            exact aLess
          · have hje : j = i := by omega
            subst hje
            have hfs := freeL_succ (x := x) (D := D) (i := j)
            have hfl := freeL_len (x := x) (D := D) (i := j)
            cases hpt : preT x D j j with
            | false =>
              rw [hpt, if_neg (by decide), List.append_nil] at hfs
              repeat' (first | ((with_reducible refine Go.red ?_); conv => whnf) | with_reducible (first | refine Go.and ?_ ?_ | exact True.intro | refine Go.far ?_ | exact Go.askRep | refine Go.unroll ?_ | refine Go.drawn ?_) | ((with_reducible refine Apt.mk ?_); (try dsimp only); omega) | ((with_reducible refine Ask.mk ?_); first | exact aAsk | exact aAsk2) | ((with_reducible refine Go.ari64 ?_ ?_ ?_); (· exact aBnd); (· exact aBnd)) | ((with_reducible refine Go.ariu8 ?_ ?_ ?_); (· exact aBnd); (· exact aBnd)) | (with_reducible refine Go.ari0 ?_) | (apply Go.elem; (· exact aElem)) | (apply Go.row; (· exact aRow)) | (apply Go.map; (· exact aRow)) | (apply Go.gives; (· exact aGives)) | (apply Go.gives; (· exact aRes)) | (refine Go.gt rfl ?_) | (refine Go.gf rfl ?_) | (with_reducible refine Go.join ?_) | (refine Go.lt' rfl ?_) | (refine Go.lf' rfl ?_) | ((with_reducible refine Go.bool ?_ ?_) <;> intro hc <;> (try simp only [List.length_map, ne_eq, hcs] at hc) <;> try (exfalso; omega)) | ((with_reducible refine Res.eq ?_ ?_); (· exact aFit)))
              refine ⟨(j + 1, sf), by dsimp only; omega, aLess, by dsimp only; omega, aNx, aRow, aRow, aRow, ?_⟩
              dsimp only
              rw [hfs]
              rcases hfree with hfree | ⟨fb, dF, f1, f2, f3, f4, f5⟩
              · exact .inl hfree
              · exact .inr ⟨fb, dF, f1, f2, f3, aNx, Eq.trans aSkip ((hk3 fb f4).trans f5)⟩
            | true =>
              rw [hpt, if_pos rfl] at hfs
              rcases hfree with ⟨f1, rfl⟩ | ⟨fb, dF, f1, rfl, hfb1, hfb2, f5⟩
              · rw [f1, List.nil_append] at hfs
                repeat' (first | ((with_reducible refine Go.red ?_); conv => whnf) | with_reducible (first | refine Go.and ?_ ?_ | exact True.intro | refine Go.far ?_ | exact Go.askRep | refine Go.unroll ?_ | refine Go.drawn ?_) | ((with_reducible refine Apt.mk ?_); (try dsimp only); omega) | ((with_reducible refine Ask.mk ?_); first | exact aAsk | exact aAsk2) | ((with_reducible refine Go.ari64 ?_ ?_ ?_); (· exact aBnd); (· exact aBnd)) | ((with_reducible refine Go.ariu8 ?_ ?_ ?_); (· exact aBnd); (· exact aBnd)) | (with_reducible refine Go.ari0 ?_) | (apply Go.elem; (· exact aElem)) | (apply Go.row; (· exact aRow)) | (apply Go.map; (· exact aRow)) | (apply Go.gives; (· exact aGives)) | (apply Go.gives; (· exact aRes)) | (refine Go.gt rfl ?_) | (refine Go.gf rfl ?_) | (with_reducible refine Go.join ?_) | (refine Go.lt' rfl ?_) | (refine Go.lf' rfl ?_) | ((with_reducible refine Go.bool ?_ ?_) <;> intro hc <;> (try simp only [List.length_map, ne_eq, hcs] at hc) <;> try (exfalso; omega)) | ((with_reducible refine Res.eq ?_ ?_); (· exact aFit)))
                refine ⟨(j + 1, .sl (n3 + 7) 1), by dsimp only; omega, aLess, by dsimp only; omega, aNx, aRow, aRow, aRow, .inr ⟨(n3 + 7), _, by rw [hfs]; simp, by rw [hfs]; rfl, by omega, aNx, by rw [hfs]; exact aRow⟩⟩
              · have f6 := (hk3 fb hfb2).trans f5
                repeat' (first | ((with_reducible refine Go.red ?_); conv => whnf) | with_reducible (first | refine Go.and ?_ ?_ | exact True.intro | refine Go.far ?_ | exact Go.askRep | refine Go.unroll ?_ | refine Go.drawn ?_) | ((with_reducible refine Apt.mk ?_); (try dsimp only); omega) | ((with_reducible refine Ask.mk ?_); first | exact aAsk | exact aAsk2) | ((with_reducible refine Go.ari64 ?_ ?_ ?_); (· exact aBnd); (· exact aBnd)) | ((with_reducible refine Go.ariu8 ?_ ?_ ?_); (· exact aBnd); (· exact aBnd)) | (with_reducible refine Go.ari0 ?_) | (apply Go.elem; (· exact aElem)) | (apply Go.row; (· exact aRow)) | (apply Go.map; (· exact aRow)) | (apply Go.gives; (· exact aGives)) | (apply Go.gives; (· exact aRes)) | (refine Go.gt rfl ?_) | (refine Go.gf rfl ?_) | (with_reducible refine Go.join ?_) | (refine Go.lt' rfl ?_) | (refine Go.lf' rfl ?_) | ((with_reducible refine Go.bool ?_ ?_) <;> intro hc <;> (try simp only [List.length_map, ne_eq, hcs] at hc) <;> try (exfalso; omega)) | ((with_reducible refine Res.eq ?_ ?_); (· exact aFit)))
                refine ⟨(j + 1, .sl fb ((freeL x D j).length + 1)), by dsimp only; omega, aLess, by dsimp only; omega, aNx, aRow, aRow, aRow, .inr ⟨fb, _, by rw [hfs]; simp, by rw [hfs, List.length_append]; rfl, hfb1, aNx, by rw [hfs, List.map_append]; exact aRow⟩⟩
        · have hie : i = x.events.length := by omega
          subst hie
          have hfl := freeL_len (x := x) (D := D) (i := x.events.length)
          have hfp := freeL_pos (x := x) (D := D) (n := x.events.length) (by have h1 := hh.cnt; have h2 := hlt; omega)
          rcases hfree with ⟨f1, rfl⟩ | ⟨fb, dF, f1, rfl, hfb1, hfb2, f5⟩
          · rw [f1] at hfp; simp at hfp
          · have hlf : (freeL x D x.events.length).length ≤ x.events.length := hfl
            have hdn : ∀ m : Nat, m < (freeL x D x.events.length).length → ∃ a : Nat, (freeL x D x.events.length).getD m 0 = (a : Int) ∧ a < x.events.length ∧ preT x D a a = true := fun m hm => by
              have := freeL_mem.1 (getD_mem' 0 hm)
              exact ⟨((freeL x D x.events.length).getD m 0).toNat, by omega, by omega, this.2⟩
            by_cases hpk : out.length < pick.length ∧ 0 ≤ pick.getD out.length 0
            · have hMr : 0 ≤ (pick.getD (out.length : Int).toNat 0).tmod ((freeL x D x.events.length).length : Nat) ∧ (pick.getD (out.length : Int).toNat 0).tmod ((freeL x D x.events.length).length : Nat) < ((freeL x D x.events.length).length : Nat) := by
                refine ⟨Int.tmod_nonneg _ ?_, Int.tmod_lt_of_pos _ (by omega)⟩
                simp only [Int.toNat_natCast, Int.toNat_zero]
                exact hpk.2
              obtain ⟨a, ha1, ha2, ha3⟩ := hdn ((pick.getD (out.length : Int).toNat 0).tmod ((freeL x D x.events.length).length : Nat)).toNat (by omega)
              have hga : ∀ d, ((freeL x D x.events.length).map i64).getD ((pick.getD (out.length : Int).toNat 0).tmod ((freeL x D x.events.length).length : Nat)).toNat d = i64 (a : Int) := fun d => by rw [int_getD (by omega), ha1]
              have hnx := hh.next ha2 ha3
              repeat' (first | ((with_reducible refine Go.red ?_); conv => whnf) | with_reducible (first | refine Go.and ?_ ?_ | exact True.intro | refine Go.far ?_ | exact Go.askRep | refine Go.unroll ?_ | refine Go.drawn ?_) | ((with_reducible refine Apt.mk ?_); (try dsimp only); omega) | ((with_reducible refine Ask.mk ?_); first | exact aAsk | (exact And.intro (doneB_len _ _) rfl) | (exact doneB_len _ _) | (exact fun _ => And.intro (doneB_len _ _) rfl) | (exact fun _ => doneB_len _ _) | exact aAsk2) | ((with_reducible refine Go.ari64 ?_ ?_ ?_); (· exact aBnd); (· exact aBnd)) | ((with_reducible refine Go.ariu8 ?_ ?_ ?_); (· exact aBnd); (· exact aBnd)) | (with_reducible refine Go.ari0 ?_) | (apply Go.elem; (· (first | exact hga _ | exact int_get | exact doneB_get (by omega) _ | exact aElem))) | (apply Go.row; (· exact aRow)) | (apply Go.map; (· exact aRow)) | (apply Go.gives; (· exact aGives)) | (apply Go.gives; (· exact aRes)) | (refine Go.gt rfl ?_) | (refine Go.gf rfl ?_) | (with_reducible refine Go.join ?_) | (refine Go.lt' rfl ?_) | (refine Go.lf' rfl ?_) | ((with_reducible refine Go.bool ?_ ?_) <;> intro hc <;> (try simp only [List.length_map, ne_eq, hcs] at hc) <;> try (exfalso; omega)) | ((with_reducible refine Res.eq ?_ ?_); (· exact aFit)))
              refine ⟨(setD D a, out ++ [(a : Int)], .sl ob (out.length + 1)), by dsimp only; simp only [List.length_append, List.length_cons, List.length_nil]; omega, aLess, hnx, aNx, aRow, by dsimp only; rw [← doneB_set ha2]; exact aRow, .inr ⟨ob, _, by simp, by simp, hob1, aNx, by dsimp only; rw [List.map_append]; exact aRow⟩⟩
            · obtain ⟨a, ha1, ha2, ha3⟩ := hdn 0 hfp
              have hga : ∀ d, ((freeL x D x.events.length).map i64).getD (Int.toNat 0) d = i64 (a : Int) := fun d => by rw [Int.toNat_zero, int_getD hfp, ha1]
              have hnx := hh.next ha2 ha3
              repeat' (first | ((with_reducible refine Go.red ?_); conv => whnf) | with_reducible (first | refine Go.and ?_ ?_ | exact True.intro | refine Go.far ?_ | exact Go.askRep | refine Go.unroll ?_ | refine Go.drawn ?_) | ((with_reducible refine Apt.mk ?_); (try dsimp only); omega) | ((with_reducible refine Ask.mk ?_); first | exact aAsk | (exact And.intro (doneB_len _ _) rfl) | (exact doneB_len _ _) | (exact fun _ => And.intro (doneB_len _ _) rfl) | (exact fun _ => doneB_len _ _) | exact aAsk2) | ((with_reducible refine Go.ari64 ?_ ?_ ?_); (· exact aBnd); (· exact aBnd)) | ((with_reducible refine Go.ariu8 ?_ ?_ ?_); (· exact aBnd); (· exact aBnd)) | (with_reducible refine Go.ari0 ?_) | (apply Go.elem; (· (first | exact hga _ | exact int_get | exact doneB_get (by omega) _ | exact aElem))) | (apply Go.row; (· exact aRow)) | (apply Go.map; (· exact aRow)) | (apply Go.gives; (· exact aGives)) | (apply Go.gives; (· exact aRes)) | (refine Go.gt rfl ?_) | (refine Go.gf rfl ?_) | (with_reducible refine Go.join ?_) | (refine Go.lt' rfl ?_) | (refine Go.lf' rfl ?_) | ((with_reducible refine Go.bool ?_ ?_) <;> intro hc <;> (try simp only [List.length_map, ne_eq, hcs] at hc) <;> try (exfalso; omega)) | ((with_reducible refine Res.eq ?_ ?_); (· exact aFit)))
              refine ⟨(setD D a, out ++ [(a : Int)], .sl ob (out.length + 1)), by dsimp only; simp only [List.length_append, List.length_cons, List.length_nil]; omega, aLess, hnx, aNx, aRow, by dsimp only; rw [← doneB_set ha2]; exact aRow, .inr ⟨ob, _, by simp, by simp, hob1, aNx, by dsimp only; rw [List.map_append]; exact aRow⟩⟩
      · repeat' (first | ((with_reducible refine Go.red ?_); conv => whnf) | with_reducible (first | refine Go.and ?_ ?_ | exact True.intro | refine Go.far ?_ | exact Go.askRep | refine Go.unroll ?_ | refine Go.drawn ?_) | ((with_reducible refine Apt.mk ?_); (try dsimp only); omega) | ((with_reducible refine Ask.mk ?_); first | exact aAsk | exact aAsk2) | ((with_reducible refine Go.ari64 ?_ ?_ ?_); (· exact aBnd); (· exact aBnd)) | ((with_reducible refine Go.ariu8 ?_ ?_ ?_); (· exact aBnd); (· exact aBnd)) | (with_reducible refine Go.ari0 ?_) | (apply Go.elem; (· exact aElem)) | (apply Go.row; (· exact aRow)) | (apply Go.map; (· exact aRow)) | (apply Go.gives; (· exact aGives)) | (apply Go.gives; (· exact aRes)) | (refine Go.gt rfl ?_) | (refine Go.gf rfl ?_) | (with_reducible refine Go.join ?_) | (refine Go.lt' rfl ?_) | (refine Go.lf' rfl ?_) | ((with_reducible refine Go.bool ?_ ?_) <;> intro hc <;> (try simp only [List.length_map, ne_eq, hcs] at hc) <;> try (exfalso; omega)) | ((with_reducible refine Res.eq ?_ ?_); (· exact aFit)))
        have hlen : out.length = x.events.length := by have := hh.cnt; omega
        have hL := hh.line hlen
        have hI := isL_of hL
        refine Go.callN (CallN.freshT (args2 := [x.av, (imF out)]) (es := ((List.range x.events.length).map (gotF x out)).map i64) (cs := [i64 0]) (e := 3) (sz := 1) (reads_fresh x hx hok out hL (imF out) (fun c => le_im c _)) (fun i hi => by rw [getD_av (f := i64) (h := by simpa using hi)]; trivial) trivial .any (by simp only [List.map_cons, List.map_nil, frz_fit 6 (show fitA 0 x.av by simp [fitA])]; rw [frz_sl (k := 5) (aRow : getH _ ob = some (.row 3 1 dO (out.map i64))) (by simp), frz_same _ ((fitL_map _ _).2 fun _ _ => by simp [fitA])]; rfl) (by simp [fitL, fitA, fitL_map])).toN ?_
        rintro _ _ _ ⟨⟨rfl, rfl⟩, rfl⟩
        have hgl : ((List.range x.events.length).map (gotF x out)).length = x.events.length := by simp
        have hgg : ∀ j, j < x.events.length → ((List.range x.events.length).map (gotF x out)).getD j 0 = gotF x out j := fun j hj => by simp [List.getD, hj]
        have hran := hI.ran
        have hfl := hx.firstlen
        have hal := hx.afterlen
        rw [h.afl] at hal
        have hpl := done_plain h hI (hh.ord)
        have hwf := done_wf hx h hI
        have hgot : ∀ i, i < x.events.length → gotF x out i < 0 ∨ (0 ≤ gotF x out i ∧ gotF x out i < x.events.length) := fun i hi => by
          cases hr : (x.ev i).rd with
          | false =>
            obtain ⟨j, hj, e⟩ := hI.all i hi
            rw [got_at hI hi hj e, hr, if_neg (by decide)]; omega
          | true =>
            rcases got_spec h hI hi hr with ⟨g1, _⟩ | ⟨w, g1, g2, _⟩ <;> rw [g1] <;> omega
        generalize hG : (List.range x.events.length).map (gotF x out) = G at *
        have hgm : (G.map i64).length = x.events.length := by rw [List.length_map, hgl]
        repeat' (first | ((with_reducible refine Go.red ?_); conv => whnf) | with_reducible (first | refine Go.and ?_ ?_ | exact True.intro | refine Go.far ?_ | exact Go.askRep | refine Go.unroll ?_ | refine Go.drawn ?_) | ((with_reducible refine Apt.mk ?_); (try dsimp only); omega) | ((with_reducible refine Ask.mk ?_); first | exact aAsk | (exact hgm) | exact aAsk2 | (intro h; simp_all [Exec.cells] <;> fail) | (simp_all [Exec.cells] <;> fail)) | ((with_reducible refine Go.ari64 ?_ ?_ ?_); (· exact aBnd); (· exact aBnd)) | ((with_reducible refine Go.ariu8 ?_ ?_ ?_); (· exact aBnd); (· exact aBnd)) | (with_reducible refine Go.ari0 ?_) | (apply Go.elem; (· exact aElem)) | (apply Go.row; (· exact aRow)) | (apply Go.map; (· exact aRow)) | (apply Go.gives; (· exact aGives)) | (apply Go.gives; (· exact aRes)) | (refine Go.gt rfl ?_) | (refine Go.gf rfl ?_) | (with_reducible refine Go.join ?_) | (refine Go.lt' rfl ?_) | (refine Go.lf' rfl ?_) | ((with_reducible refine Go.bool ?_ ?_) <;> intro hc <;> (try simp only [List.length_map, ne_eq, hcs] at hc) <;> try (exfalso; omega)) | ((with_reducible refine Res.eq ?_ ?_); (· exact aFit)))
        · rcases hc with hc | hc
          · exact absurd trivial hc
          · exact absurd (by rw [hgl]) hc
        simp only [List.length_map, Int.toNat_natCast]
        refine Go.loopT (fun i : Nat => [(2, .pt 0 1 0 0), (7, i64 x.events.length), (9, .sl ob out.length), (15, .sl (n1 + 6) G.length), (16, .pt (n1 + 34) 1 0 0), (17, i64 i)])
          (fun i H n => i ≤ x.events.length ∧ n1 + 36 ≤ n ∧ getH H 0 = some (.row 27 4 .any [x.av]) ∧ getH H ob = some (.row 3 1 dO (out.map i64)) ∧ (getH H (n1 + 6) = some (.row 3 1 .any (G.map i64)) ∧ (∃ d, getH H (n1 + 20) = some (.row 2 1 d (x.first.map i64))) ∧ (∃ d, getH H (n1 + 24) = some (.row 39 5 d (x.events.map Deed.av))) ∧
            (∃ d, getH H (n1 + 34) = some (.row 27 4 d [.agg [.sl (n1 + 20) (0 + x.first.length), .sl (n1 + 24) (0 + x.events.length), .sl (n1 + 6) G.length, .sl (n1 + 32) x.first.length]])) ∧
            ∃ ids, QAt 24 3 1 (n1 + 32) ids (SI (afS x out i)) H ∧ ∀ y ∈ ids, n1 + 36 ≤ y ∧ y < n)) (fun i => x.events.length - i) 0 aLess
          ⟨_, _, Wk.born (te := 24) (e := 3) (sz := 1) (b := n1 + 32) (n := x.first.length) aNx (by omega) aRow, Nat.zero_le _, aNx, (bornH_at aNx (by omega)).trans aRow, (bornH_at aNx (by omega)).trans aRow, (bornH_at aNx (by omega)).trans aRow, ⟨_, (bornH_at aNx (by omega)).trans aRow⟩, ⟨_, (bornH_at aNx (by omega)).trans aRow⟩, ⟨_, (bornH_at aNx (by omega)).trans aRow⟩, _, by rw [afS_zero, show SI (List.replicate x.first.length []) = List.replicate x.first.length [] by simp [SI]]; exact QAt.born aNx, fun y hy => ?_⟩ ?_
        · simp only [List.mem_map, List.mem_range] at hy
          obtain ⟨i, hi, rfl⟩ := hy
          exact ⟨aNx, by omega⟩
        rintro i H2 n2 ⟨hi, hn2, r02, rO2, rG, ⟨dF, rF⟩, ⟨dE, rE⟩, ⟨dY, rY⟩, ids, hQ, hids⟩
        by_cases hil : i < x.events.length
        · obtain ⟨a, ha⟩ : ∃ a : Nat, out.getD i 0 = (a : Int) := ⟨(out.getD i 0).toNat, by have := hran i hil; omega⟩
          have han : a < x.events.length := by have := hran i hil; omega
          have hga : ∀ d, (out.map i64).getD (i : Int).toNat d = i64 (a : Int) := fun d => by rw [Int.toNat_natCast, int_getD (by omega), ha]
          have hsl : (SI (afS x out i)).length = x.first.length := by rw [SI_len, afS_len]
          cases hw : (x.ev a).wr with
          | false =>
            have hsk := afS_skip (x := x) (l := out) (i := i) (by omega) (by rw [ha, Int.toNat_natCast]; exact hw)
            repeat' (first | ((with_reducible refine Go.red ?_); conv => whnf) | with_reducible (first | refine Go.and ?_ ?_ | exact True.intro | refine Go.far ?_ | exact Go.askRep | refine Go.unroll ?_ | refine Go.drawn ?_) | ((with_reducible refine Apt.mk ?_); (try dsimp only); omega) | ((with_reducible refine Ask.mk ?_); first | exact aAsk | exact aAsk2 | (intro h; simp_all [Exec.cells, Deed.cells] <;> fail) | (simp_all [Exec.cells, Deed.cells] <;> fail)) | ((with_reducible refine Go.ari64 ?_ ?_ ?_); (· exact aBnd); (· exact aBnd)) | ((with_reducible refine Go.ariu8 ?_ ?_ ?_); (· exact aBnd); (· exact aBnd)) | (with_reducible refine Go.ari0 ?_) | (apply Go.elem; (· (first | exact hga _ | exact ev_get | exact aElem))) | (apply Go.row; (· exact aRow)) | (apply Go.map; (· exact aRow)) | (apply Go.gives; (· exact aGives)) | (apply Go.gives; (· exact aRes)) | ((with_reducible refine Go.callW (writer_pure _) ?_ ?_); (· exact aFit)) | ((with_reducible refine Go.callJ (fun _ => writer_pure _) ?_ ?_); (· exact aFit)) | ((with_reducible refine Go.callE (writer_pure _) ?_ ?_); (· exact aFit)) | ((with_reducible refine Go.callF (fun _ => writer_pure _) ?_ ?_); (· exact aFit)) | (simp only [Int.toNat_natCast, hw]) | (refine Go.gt rfl ?_) | (refine Go.gf rfl ?_) | (with_reducible refine Go.join ?_) | (refine Go.lt' rfl ?_) | (refine Go.lf' rfl ?_) | ((with_reducible refine Go.bool ?_ ?_) <;> intro hc <;> (try simp only [List.length_map, ne_eq, hcs] at hc) <;> try (exfalso; omega)) | ((with_reducible refine Res.eq ?_ ?_); (· exact aFit)))
            refine ⟨i + 1, by omega, aLess, _, _, Wk.refl _ _ _, by omega, aNx, aRow, aRow, aRow, ⟨_, aRow⟩, ⟨_, aRow⟩, ⟨_, aRow⟩, ids, ?_, fun y hy => ⟨(hids y hy).1, Nat.lt_of_lt_of_le (hids y hy).2 aNx⟩⟩
            rw [← hsk]
            refine hQ.keep fun y hy => ?_
            have hy2 : n1 + 32 ≤ y ∧ y < n2 := by
              rcases List.mem_cons.1 hy with rfl | hy
              · omega
              · have := hids y hy; omega
            exact aSkip
          | true =>
            have ht := h.thingW han hw
            rw [h.afl] at ht
            obtain ⟨q, hq⟩ : ∃ q : Nat, (x.ev a).thing = (q : Int) := ⟨(x.ev a).thing.toNat, by omega⟩
            have hqn : q < x.first.length := by omega
            have hnx := afS_next (x := x) (l := out) (i := i) (t := q) (by omega) hqn (by rw [ha, Int.toNat_natCast]; exact hw) (by rw [ha, Int.toNat_natCast]; exact hq)
            rw [ha] at hnx
            have hll : ((afS x out i).getD q []).length ≤ i := by
              rw [afS_get hqn]
              have h1 := List.length_filter_le (wrTo x q) (out.take i)
              rw [List.length_take] at h1; omega
            obtain ⟨dS, rS⟩ := hQ.row
            obtain ⟨dq, rq⟩ := hQ.qs q (by rw [hsl]; exact hqn)
            rw [SI_get] at rq
            have hlS : (qRow ids (SI (afS x out i))).length = x.first.length := by rw [hQ.len, hsl]
            have hgt : ∀ d, (qRow ids (SI (afS x out i))).getD (q : Int).toNat d = .sl (ids.getD q 0) ((afS x out i).getD q []).length := fun d => by rw [Int.toNat_natCast, hQ.get (by rw [hsl]; exact hqn), SI_get, List.length_map]
            have hgt2 : ∀ d, (qRow ids (SI (afS x out i))).getD q d = .sl (ids.getD q 0) ((afS x out i).getD q []).length := fun d => by rw [← hgt d, Int.toNat_natCast]
            have hxq := hids _ (getD_mem (l := ids) (q := q) (by rw [hQ.lens, hsl]; exact hqn))
            have hne := hQ.ne (q := q) (by rw [hsl]; exact hqn)
            have hqt : (x.ev a).thing.toNat = q := by omega
            have hgt3 : ∀ d, (qRow ids (SI (afS x out i))).getD (x.ev a).thing.toNat d = .sl (ids.getD q 0) ((afS x out i).getD q []).length := fun d => by rw [hqt]; exact hgt2 d
            repeat' (first | ((with_reducible refine Go.red ?_); conv => whnf) | with_reducible (first | refine Go.and ?_ ?_ | exact True.intro | refine Go.far ?_ | exact Go.askRep | refine Go.unroll ?_ | refine Go.drawn ?_) | ((with_reducible refine Apt.mk ?_); (try dsimp only); omega) | ((with_reducible refine Ask.mk ?_); first | exact aAsk | exact aAsk2 | (intro h; simp_all [Exec.cells, Deed.cells] <;> fail) | (simp_all [Exec.cells, Deed.cells] <;> fail)) | ((with_reducible refine Go.ari64 ?_ ?_ ?_); (· exact aBnd); (· exact aBnd)) | ((with_reducible refine Go.ariu8 ?_ ?_ ?_); (· exact aBnd); (· exact aBnd)) | (with_reducible refine Go.ari0 ?_) | (apply Go.elem; (· (first | exact hga _ | exact ev_get | exact hgt3 _ | exact aElem))) | (apply Go.row; (· exact aRow)) | (apply Go.map; (· exact aRow)) | (apply Go.gives; (· exact aGives)) | (apply Go.gives; (· exact aRes)) | ((with_reducible refine Go.callW (writer_pure _) ?_ ?_); (· exact aFit)) | ((with_reducible refine Go.callJ (fun _ => writer_pure _) ?_ ?_); (· exact aFit)) | ((with_reducible refine Go.callE (writer_pure _) ?_ ?_); (· exact aFit)) | ((with_reducible refine Go.callF (fun _ => writer_pure _) ?_ ?_); (· exact aFit)) | (simp only [Int.toNat_natCast, hw]) | (refine Go.gt rfl ?_) | (refine Go.gf rfl ?_) | (with_reducible refine Go.join ?_) | (refine Go.lt' rfl ?_) | (refine Go.lf' rfl ?_) | ((with_reducible refine Go.bool ?_ ?_) <;> intro hc <;> (try simp only [List.length_map, ne_eq, hcs] at hc) <;> try (exfalso; omega)) | ((with_reducible refine Res.eq ?_ ?_); (· exact aFit)))
            refine ⟨i + 1, by omega, aLess, _, _, Wk.refl _ _ _, by omega, aNx, aRow, aRow, aRow, ⟨_, aRow⟩, ⟨_, aRow⟩, ⟨_, aRow⟩, ids, ?_, fun y hy => ⟨(hids y hy).1, Nat.lt_of_lt_of_le (hids y hy).2 aNx⟩⟩
            rw [← hnx, SI_set]
            refine QAt_same hQ (by rw [hsl]; exact hqn) _ ⟨_, _, aRow, (by rw [hqt]; simp)⟩ ⟨_, _, aRow, (by rw [List.map_append]; rfl)⟩ (fun j hj m2 m3 m4 => ?_)
            have h9 := hids _ (getD_mem (l := ids) (q := j) (by rw [hQ.lens]; exact hj))
            exact aSkip
        · have hie : i = x.events.length := by omega
          subst hie
          repeat' (first | ((with_reducible refine Go.red ?_); conv => whnf) | with_reducible (first | refine Go.and ?_ ?_ | exact True.intro | refine Go.far ?_ | exact Go.askRep | refine Go.unroll ?_ | refine Go.drawn ?_) | ((with_reducible refine Apt.mk ?_); (try dsimp only); omega) | ((with_reducible refine Ask.mk ?_); first | exact aAsk | exact aAsk2) | ((with_reducible refine Go.ari64 ?_ ?_ ?_); (· exact aBnd); (· exact aBnd)) | ((with_reducible refine Go.ariu8 ?_ ?_ ?_); (· exact aBnd); (· exact aBnd)) | (with_reducible refine Go.ari0 ?_) | (apply Go.elem; (· exact aElem)) | (apply Go.row; (· exact aRow)) | (apply Go.map; (· exact aRow)) | (apply Go.gives; (· exact aGives)) | (apply Go.gives; (· exact aRes)) | (refine Go.gt rfl ?_) | (refine Go.gf rfl ?_) | (with_reducible refine Go.join ?_) | (refine Go.lt' rfl ?_) | (refine Go.lf' rfl ?_) | ((with_reducible refine Go.bool ?_ ?_) <;> intro hc <;> (try simp only [List.length_map, ne_eq, hcs] at hc) <;> try (exfalso; omega)) | ((with_reducible refine Res.eq ?_ ?_); (· exact aFit)))
          refine Go.loop (fun i : Nat => [(2, .pt 0 1 0 0), (7, i64 x.events.length), (15, .sl (n1 + 6) G.length), (16, .pt (n1 + 34) 1 0 0), (19, i64 i)])
            (fun i H n => i ≤ x.events.length ∧ n2 ≤ n ∧ getH H 0 = some (.row 27 4 .any [x.av]) ∧ getH H (n1 + 6) = some (.row 3 1 .any (G.map i64)) ∧ (∃ d, getH H (n1 + 20) = some (.row 2 1 d (x.first.map i64))) ∧ (∃ d, getH H (n1 + 24) = some (.row 39 5 d ((evMix x out i).map Deed.av))) ∧
              (∃ d, getH H (n1 + 34) = some (.row 27 4 d [.agg [.sl (n1 + 20) (0 + x.first.length), .sl (n1 + 24) (0 + x.events.length), .sl (n1 + 6) G.length, .sl (n1 + 32) x.first.length]])) ∧
              QAt 24 3 1 (n1 + 32) ids (SI (afS x out x.events.length)) H) (fun i => x.events.length - i) 0 aLess ⟨Nat.zero_le _, aNx, aRow, aRow, ⟨_, aRow⟩, ⟨_, by rw [evMix_zero]; exact aRow⟩, ⟨_, aRow⟩, hQ.keep (fun y hy => by
                have hy2 : n1 + 32 ≤ y ∧ y ≠ n1 + 34 := by
                  rcases List.mem_cons.1 hy with rfl | hy
                  · omega
                  · have := hids y hy; omega
                exact aSkip)⟩ ?_
          rintro i H3 n3 ⟨hi, hn3, r03, rG3, ⟨dF3, rF3⟩, ⟨dE3, rE3⟩, ⟨dY3, rY3⟩, hQ3⟩
          by_cases hil : i < x.events.length
          · have hml : ((evMix x out i).map Deed.av).length = 0 + x.events.length := by rw [List.length_map, evMix_len, Nat.zero_add]
            have hgq : ∀ d, (G.map i64).getD (i : Int).toNat d = i64 (gotF x out i) := fun d => by rw [Int.toNat_natCast, int_getD (by rw [hgl]; exact hil), hgg i hil]
            have hem : ∀ (j : Nat) d, j < x.events.length → ((evMix x out i).map Deed.av).getD j d = ((evMix x out i).getD j default).av := fun j d hj => getD_av Deed.av _ _ _ (by rw [evMix_len]; exact hj)
            have hev : ∀ d, ((evMix x out i).map Deed.av).getD (i : Int).toNat d = (x.ev i).av := fun d => by rw [Int.toNat_natCast, hem i d hil, evMix_get hil, if_neg (Nat.lt_irrefl _)]
            have hset := evMix_set (x := x) (l := out) hil
            cases hr : (x.ev i).rd with
            | false =>
              have hsk := evMix_skip (l := out) hil hr
              repeat' (first | ((with_reducible refine Go.red ?_); conv => whnf) | with_reducible (first | refine Go.and ?_ ?_ | exact True.intro | refine Go.far ?_ | exact Go.askRep | refine Go.unroll ?_ | refine Go.drawn ?_) | ((with_reducible refine Apt.mk ?_); (try dsimp only); omega) | ((with_reducible refine Ask.mk ?_); first | exact aAsk | exact aAsk2 | (intro h; simp_all [Deed.cells] <;> fail) | (simp_all [Deed.cells] <;> fail)) | ((with_reducible refine Go.ari64 ?_ ?_ ?_); (· exact aBnd); (· exact aBnd)) | ((with_reducible refine Go.ariu8 ?_ ?_ ?_); (· exact aBnd); (· exact aBnd)) | (with_reducible refine Go.ari0 ?_) | (apply Go.elem; (· (first | exact hev _ | exact aElem))) | (apply Go.row; (· exact aRow)) | (apply Go.map; (· exact aRow)) | (apply Go.gives; (· exact aGives)) | (apply Go.gives; (· exact aRes)) | ((with_reducible refine Go.callW (reader_pure _) ?_ ?_); (· exact aFit)) | ((with_reducible refine Go.callJ (fun _ => reader_pure _) ?_ ?_); (· exact aFit)) | ((with_reducible refine Go.callE (reader_pure _) ?_ ?_); (· exact aFit)) | ((with_reducible refine Go.callF (fun _ => reader_pure _) ?_ ?_); (· exact aFit)) | (simp only [Int.toNat_natCast, hr]) | (refine Go.gt rfl ?_) | (refine Go.gf rfl ?_) | (with_reducible refine Go.join ?_) | (refine Go.lt' rfl ?_) | (refine Go.lf' rfl ?_) | ((with_reducible refine Go.bool ?_ ?_) <;> intro hc <;> (try simp only [List.length_map, ne_eq, hcs] at hc) <;> try (exfalso; omega)) | ((with_reducible refine Res.eq ?_ ?_); (· exact aFit)))
              exact ⟨i + 1, by omega, aLess, by omega, aNx, aRow, aRow, ⟨_, aRow⟩, ⟨_, by rw [← hsk]; exact aRow⟩, ⟨_, aRow⟩, hQ3.keep (fun y hy => by
                have hy2 : n1 + 32 ≤ y ∧ y < n2 := by
                  rcases List.mem_cons.1 hy with rfl | hy
                  · omega
                  · have := hids y hy; omega
                exact aSkip)⟩
            | true =>
              have he : evF x out i = { x.ev i with saw := sawF x out i } := by unfold evF; rw [hr]; rfl
              have ht := h.thingR hil hr
              rw [h.afl] at ht
              by_cases hg : gotF x out i < 0
              · have hgd : decide (gotF x out i < 0) = true := decide_eq_true hg
                have hsw : sawF x out i = x.fst (x.ev i).thing.toNat := by unfold sawF; rw [if_pos hg]
                have hfs : ∀ d, (x.first.map i64).getD (x.ev i).thing.toNat d = i64 (x.fst (x.ev i).thing.toNat) := fun d => int_getD (by omega) d
                repeat' (first | ((with_reducible refine Go.red ?_); conv => whnf) | with_reducible (first | refine Go.and ?_ ?_ | exact True.intro | refine Go.far ?_ | exact Go.askRep | refine Go.unroll ?_ | refine Go.drawn ?_) | ((with_reducible refine Apt.mk ?_); (try dsimp only); omega) | ((with_reducible refine Ask.mk ?_); first | exact aAsk | exact aAsk2 | (intro h; simp_all [Deed.cells] <;> fail) | (simp_all [Deed.cells] <;> fail)) | ((with_reducible refine Go.ari64 ?_ ?_ ?_); (· exact aBnd); (· exact aBnd)) | ((with_reducible refine Go.ariu8 ?_ ?_ ?_); (· exact aBnd); (· exact aBnd)) | (with_reducible refine Go.ari0 ?_) | (apply Go.elem; (· (first | exact hev _ | exact hgq _ | exact hfs _ | exact aElem))) | (apply Go.row; (· exact aRow)) | (apply Go.map; (· exact aRow)) | (apply Go.gives; (· exact aGives)) | (apply Go.gives; (· exact aRes)) | ((with_reducible refine Go.callW (reader_pure _) ?_ ?_); (· exact aFit)) | ((with_reducible refine Go.callJ (fun _ => reader_pure _) ?_ ?_); (· exact aFit)) | ((with_reducible refine Go.callE (reader_pure _) ?_ ?_); (· exact aFit)) | ((with_reducible refine Go.callF (fun _ => reader_pure _) ?_ ?_); (· exact aFit)) | (simp only [Int.toNat_natCast, hr]) | (simp only [hgd]) | (refine Go.gt rfl ?_) | (refine Go.gf rfl ?_) | (with_reducible refine Go.join ?_) | (refine Go.lt' rfl ?_) | (refine Go.lf' rfl ?_) | ((with_reducible refine Go.bool ?_ ?_) <;> intro hc <;> (try simp only [List.length_map, ne_eq, hcs] at hc) <;> try (exfalso; omega)) | ((with_reducible refine Res.eq ?_ ?_); (· exact aFit)))
                refine ⟨i + 1, by omega, aLess, by omega, aNx, aRow, aRow, ⟨_, aRow⟩, ⟨dE3, ?_⟩, ⟨_, aRow⟩, hQ3.keep (fun y hy => by
                  have hy2 : n1 + 32 ≤ y ∧ y < n2 := by
                    rcases List.mem_cons.1 hy with rfl | hy
                    · omega
                    · have := hids y hy; omega
                  exact aSkip)⟩
                rw [← hset, List.map_set, he, hsw]
                exact aRow
              · have hgd : decide (gotF x out i < 0) = false := decide_eq_false hg
                have hgr : 0 ≤ gotF x out i ∧ gotF x out i < x.events.length := (hgot i hil).elim (fun h => absurd h hg) id
                have hsw : sawF x out i = (x.ev (gotF x out i).toNat).put := by unfold sawF; rw [if_neg hg]
                have hep : ((evMix x out i).getD (gotF x out i).toNat default).put = (x.ev (gotF x out i).toNat).put := by
                  rw [evMix_get (by omega)]
                  split
                  · exact (evF_same x out _).2.2.2.1
                  · rfl
                have hev2 : ∀ d, ((evMix x out i).map Deed.av).getD (gotF x out i).toNat d = ((evMix x out i).getD (gotF x out i).toNat default).av := fun d => hem _ d (by omega)
                repeat' (first | ((with_reducible refine Go.red ?_); conv => whnf) | with_reducible (first | refine Go.and ?_ ?_ | exact True.intro | refine Go.far ?_ | exact Go.askRep | refine Go.unroll ?_ | refine Go.drawn ?_) | ((with_reducible refine Apt.mk ?_); (try dsimp only); omega) | ((with_reducible refine Ask.mk ?_); first | exact aAsk | exact aAsk2 | (intro h; simp_all [Deed.cells] <;> fail) | (simp_all [Deed.cells] <;> fail)) | ((with_reducible refine Go.ari64 ?_ ?_ ?_); (· exact aBnd); (· exact aBnd)) | ((with_reducible refine Go.ariu8 ?_ ?_ ?_); (· exact aBnd); (· exact aBnd)) | (with_reducible refine Go.ari0 ?_) | (apply Go.elem; (· (first | exact hev _ | exact hgq _ | exact hev2 _ | exact aElem))) | (apply Go.row; (· exact aRow)) | (apply Go.map; (· exact aRow)) | (apply Go.gives; (· exact aGives)) | (apply Go.gives; (· exact aRes)) | ((with_reducible refine Go.callW (reader_pure _) ?_ ?_); (· exact aFit)) | ((with_reducible refine Go.callJ (fun _ => reader_pure _) ?_ ?_); (· exact aFit)) | ((with_reducible refine Go.callE (reader_pure _) ?_ ?_); (· exact aFit)) | ((with_reducible refine Go.callF (fun _ => reader_pure _) ?_ ?_); (· exact aFit)) | (simp only [Int.toNat_natCast, hr]) | (simp only [hgd]) | (refine Go.gt rfl ?_) | (refine Go.gf rfl ?_) | (with_reducible refine Go.join ?_) | (refine Go.lt' rfl ?_) | (refine Go.lf' rfl ?_) | ((with_reducible refine Go.bool ?_ ?_) <;> intro hc <;> (try simp only [List.length_map, ne_eq, hcs] at hc) <;> try (exfalso; omega)) | ((with_reducible refine Res.eq ?_ ?_); (· exact aFit)))
                refine ⟨i + 1, by omega, aLess, by omega, aNx, aRow, aRow, ⟨_, aRow⟩, ⟨dE3, ?_⟩, ⟨_, aRow⟩, hQ3.keep (fun y hy => by
                  have hy2 : n1 + 32 ≤ y ∧ y < n2 := by
                    rcases List.mem_cons.1 hy with rfl | hy
                    · omega
                    · have := hids y hy; omega
                  exact aSkip)⟩
                rw [← hset, List.map_set, he, hsw, ← hep]
                exact aRow
          · have hie : i = x.events.length := by omega
            subst hie
            repeat' (first | ((with_reducible refine Go.red ?_); conv => whnf) | with_reducible (first | refine Go.and ?_ ?_ | exact True.intro | refine Go.far ?_ | exact Go.askRep | refine Go.unroll ?_ | refine Go.drawn ?_) | ((with_reducible refine Apt.mk ?_); (try dsimp only); omega) | ((with_reducible refine Ask.mk ?_); first | exact aAsk | exact aAsk2) | ((with_reducible refine Go.ari64 ?_ ?_ ?_); (· exact aBnd); (· exact aBnd)) | ((with_reducible refine Go.ariu8 ?_ ?_ ?_); (· exact aBnd); (· exact aBnd)) | (with_reducible refine Go.ari0 ?_) | (apply Go.elem; (· exact aElem)) | (apply Go.row; (· exact aRow)) | (apply Go.map; (· exact aRow)) | (apply Go.gives; (· exact aGives)) | (apply Go.gives; (· exact aRes)) | (refine Go.gt rfl ?_) | (refine Go.gf rfl ?_) | (with_reducible refine Go.join ?_) | (refine Go.lt' rfl ?_) | (refine Go.lf' rfl ?_) | ((with_reducible refine Go.bool ?_ ?_) <;> intro hc <;> (try simp only [List.length_map, ne_eq, hcs] at hc) <;> try (exfalso; omega)) | ((with_reducible refine Res.eq ?_ ?_); (· exact aFit)))
            have hQ4 : QAt 24 3 1 (n1 + 32) ids (SI (doneX x out).after) H3 := by rw [← afS_all hlen]; exact hQ3
            rw [evMix_all] at rE3
            have hnn : x.events.length = (doneX x out).events.length := doneX_len.symm
            refine Go.view (args2 := [(doneX x out).fz]) (r := .tup [bl true, i64 0]) ((plain_done x out hwf hpl).args fun c => .cons (le_fz c _) .nil) ?_ (by simp [fitL]) (flat_plain _ _) ?_
            · refine frz_exec (t1 := 2) (t2 := 39) (d1 := dF3) (d2 := dE3) (d3 := .any) ?_ ?_ (by rw [show (doneX x out).frm = G from hG]; exact aRow) (hQ4.keep fun y hy => ?_) ?_ ?_ (by rw [show (doneX x out).frm = G from hG]) (by simp [doneX])
              · exact aRow
              · exact aRow
              · exact aSkip
              · rw [Nat.zero_add]; rfl
              · rw [Nat.zero_add]; exact doneX_len
            repeat' (first | ((with_reducible refine Go.red ?_); conv => whnf) | with_reducible (first | refine Go.and ?_ ?_ | exact True.intro | refine Go.far ?_ | exact Go.askRep | refine Go.unroll ?_ | refine Go.drawn ?_) | ((with_reducible refine Apt.mk ?_); (try dsimp only); omega) | ((with_reducible refine Ask.mk ?_); first | exact aAsk | exact aAsk2) | ((with_reducible refine Go.ari64 ?_ ?_ ?_); (· exact aBnd); (· exact aBnd)) | ((with_reducible refine Go.ariu8 ?_ ?_ ?_); (· exact aBnd); (· exact aBnd)) | (with_reducible refine Go.ari0 ?_) | (apply Go.elem; (· exact aElem)) | (apply Go.row; (· exact aRow)) | (apply Go.map; (· exact aRow)) | (apply Go.gives; (· exact aGives)) | (apply Go.gives; (· exact aRes)) | (refine Go.gt rfl ?_) | (refine Go.gf rfl ?_) | (with_reducible refine Go.join ?_) | (refine Go.lt' rfl ?_) | (refine Go.lf' rfl ?_) | ((with_reducible refine Go.bool ?_ ?_) <;> intro hc <;> (try simp only [List.length_map, ne_eq, hcs] at hc) <;> try (exfalso; omega)) | ((with_reducible refine Res.eq ?_ ?_); (· exact aFit)))
            exact rfl
end Go.Proofs.Ytncllkpekbapjaa
