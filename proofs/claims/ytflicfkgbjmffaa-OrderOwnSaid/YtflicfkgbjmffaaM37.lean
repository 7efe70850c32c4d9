import Derived.Test.YtflicfkgbjmffaaM36
section
/- The reference's Copy of rows. -/
namespace Go.Proofs.Ytflicfkgbjmffaa
open Go Go.Abs Go.Proofs V
set_option linter.unusedSimpArgs false
set_option linter.unusedVariables false
def kAv (x : Exec) : AV := if x.after = [] then .agg [imF x.first, .im 5 .any (x.events.map Deed.av), imF x.frm, .sc (.slice none 0 0)] else x.fz
theorem kAv_le (x : Exec) (c : Cx) : AVle c c (kAv x) x.av := by
  unfold kAv
  split
  · rename_i h
    refine fun v hv => le_fz c x v (AVle.agg (.cons (fun _ hv => hv) (.cons (fun _ hv => hv) (.cons (fun _ hv => hv) (.cons ?_ .nil)))) v hv)
    rw [h]
    exact Abs.AVle.nilIm c c 1 .any
  · exact le_fz c x
theorem get_nil {H : Hp} : ∀ b q, getH ([] : Hp) b = some q → getH H b = some q := fun b q h => by simp [getH] at h
theorem get_cons {G H : Hp} {x : Nat} {q0 : Blk} (h0 : getH H x = some q0) (h : ∀ b q, getH G b = some q → getH H b = some q) : ∀ b q, getH ((x, some q0) :: G) b = some q → getH H b = some q := fun b q hq => by
  by_cases hb : b = x
  · subst hb; rw [getH_here] at hq; rw [← hq]; exact h0
  · rw [getH_skipEq hb] at hq; exact h b q hq
structure XRow (x : Exec) (fi ev fr af : Nat) (afs : List Nat) (H : Hp) : Prop where
  fi : ∃ d, getH H fi = some (.row 2 1 d (x.first.map i64))
  ev : ∃ d, getH H ev = some (.row 50 5 d (x.events.map Deed.av))
  fr : ∃ d, getH H fr = some (.row 3 1 d (x.frm.map i64))
  af : QI af afs x.after H
theorem XRow.keep {x : Exec} {fi ev fr af nx : Nat} {afs : List Nat} {H H' : Hp} (h : XRow x fi ev fr af afs H) (hl : fi < nx ∧ ev < nx ∧ fr < nx ∧ af < nx ∧ ∀ y ∈ afs, y < nx) (hk : ∀ b, b < nx → getH H' b = getH H b) : XRow x fi ev fr af afs H' := by
  obtain ⟨l1, l2, l3, l4, l5⟩ := hl
  refine ⟨?_, ?_, ?_, h.af.keep fun y hy => hk y ?_⟩
  · rw [hk _ l1]; exact h.fi
  · rw [hk _ l2]; exact h.ev
  · rw [hk _ l3]; exact h.fr
  · rcases List.mem_cons.1 hy with rfl | hy
    · exact l4
    · exact l5 y hy
set_option maxHeartbeats 4000000 in
theorem copy_rows (x : Exec) (hx : x.Wf) {fi ev fr af nx : Nat} {afs : List Nat} {H0 : Hp} (h : XRow x fi ev fr af afs H0) (hl : fi < nx ∧ ev < nx ∧ fr < nx ∧ af < nx ∧ ∀ y ∈ afs, y < nx) :
    CallN Try.prog 11 [.agg [.sl fi x.first.length, .sl ev x.events.length, .sl fr x.frm.length, .sl af x.after.length]] H0 nx (fun r H' n => r = kAv x ∧ nx ≤ n ∧ ∀ b, b < nx → getH H' b = getH H0 b) := by
  refine CallN.wk (R := fun r H' n => nx ≤ n ∧ (∀ b, b < nx → getH H' b = getH H0 b) ∧ ∃ b1 b2 b3 v, r = .agg [.sl b1 x.first.length, .sl b2 x.events.length, .sl b3 x.frm.length, v] ∧ nx ≤ b1 ∧ nx ≤ b2 ∧ nx ≤ b3 ∧ b1 ≠ b2 ∧ b1 ≠ b3 ∧ b2 ≠ b3 ∧ (∃ d, getH H' b1 = some (.row 2 1 d (x.first.map i64))) ∧ (∃ d, getH H' b2 = some (.row 50 5 d (x.events.map Deed.av))) ∧ (∃ d, getH H' b3 = some (.row 3 1 d (x.frm.map i64))) ∧
      (x.after = [] ∧ v = .sc (.slice none 0 0) ∨ ∃ b4 d, x.after ≠ [] ∧ v = .sl b4 x.after.length ∧ nx ≤ b4 ∧ b4 ≠ b1 ∧ b4 ≠ b2 ∧ b4 ≠ b3 ∧ getH H' b4 = some (.row 29 1 d (x.after.map imF)))) ?_ ?_
  · obtain ⟨l1, l2, l3, l4, l5⟩ := hl
    obtain ⟨e1, r1⟩ := h.fi
    obtain ⟨e2, r2⟩ := h.ev
    obtain ⟨e3, r3⟩ := h.fr
    obtain ⟨e4, r4⟩ := h.af.row
    refine Go.fn Try.func11 nm11 low11 res11 nt11 rfl ?_
    have h1 := hx.eventslen
    have h2 := hx.frmlen
    have h3 := hx.afterlen
    have h4 := hx.firstlen
    repeat' (first | ((with_reducible refine Go.red ?_); conv => whnf) | refine aG ?_ | exact aC | with_reducible refine Go.and ?_ ?_ | (apply Go.elem; (· exact aElem)) | refine aH ?_ | ((with_reducible refine Go.bool ?_ ?_) <;> intro hc <;> (try simp only [List.length_map, ne_eq, hcs] at hc) <;> try (exfalso; omega)))
    refine Go.loopT (fun p : Nat × AV => [(1, .pt nx 1 0 0), (2, .pt (nx + 1) 1 0 0), (3, .pt (nx + 15) 1 0 0), (4, i64 p.1)])
      (fun p H n => p.1 ≤ x.after.length ∧ nx + 16 ≤ n ∧ (∀ b, b < nx → getH H b = getH H0 b) ∧ (∃ d, getH H nx = some (.row 32 4 d [.agg [.sl fi x.first.length, .sl ev x.events.length, .sl fr x.frm.length, .sl af x.after.length]])) ∧ (∃ d, getH H (nx + 1) = some (.row 32 4 d [.agg [.sc (.slice none 0 0), .sc (.slice none 0 0), .sc (.slice none 0 0), .sc (.slice none 0 0)]])) ∧ (∃ d, getH H (nx + 2) = some (.row 2 1 d (x.first.map i64))) ∧ (∃ d, getH H (nx + 6) = some (.row 50 5 d (x.events.map Deed.av))) ∧ (∃ d, getH H (nx + 10) = some (.row 3 1 d (x.frm.map i64))) ∧
        (∃ d, getH H (nx + 15) = some (.row 32 4 d [.agg [.sl (nx + 2) (0 + (x.first.map i64).length), .sl (nx + 6) (0 + (x.events.map Deed.av).length), .sl (nx + 10) (0 + (x.frm.map i64).length), p.2]])) ∧ (p.1 = 0 ∧ p.2 = .sc (.slice none 0 0) ∨ ∃ cb d, 0 < p.1 ∧ p.2 = .sl cb p.1 ∧ nx + 16 ≤ cb ∧ cb < n ∧ getH H cb = some (.row 29 1 d ((x.after.take p.1).map imF)))) (fun p => x.after.length - p.1) (0, .sc (.slice none 0 0)) aLess ⟨_, _, Wk.refl _ _ _, Nat.zero_le _, aNx, aKeep, ⟨_, aRow⟩, ⟨_, aRow⟩, ⟨_, aRow⟩, ⟨_, aRow⟩, ⟨_, aRow⟩, ⟨_, aRow⟩, .inl ⟨rfl, rfl⟩⟩ ?_
    rintro ⟨i, v⟩ H n ⟨hi, hn, hk, ⟨d0, r0⟩, ⟨d1, q1⟩, ⟨d2, q2⟩, ⟨d6, q6⟩, ⟨d10, q10⟩, ⟨d15, q15⟩, hv⟩
    dsimp only at hi q15 hv ⊢
    have r4 := (hk af l4).trans r4
    clear r1 r2 r3
    have hlq : (qRow afs (SI x.after)).length = x.after.length := by rw [h.af.len, SI_len]
    by_cases hil : i < x.after.length
    · have hal : (x.after.getD i []).length * 8 ≤ 140737488351232 := af_len hx i
      have hgt := SI_row h.af hil
      have l6 := l5 _ (SI_in h.af hil)
      obtain ⟨d7, r7⟩ := SI_at h.af hil
      have r7 := (hk _ l6).trans r7
      rcases hv with ⟨rfl, rfl⟩ | ⟨cb, d, h0, rfl, hc1, hc2, rc⟩
      · repeat' (first | ((with_reducible refine Go.red ?_); conv => whnf) | refine aG ?_ | exact aC | with_reducible refine Go.and ?_ ?_ | (apply Go.elem; (· (first | exact hgt _ | exact aElem))) | refine aH ?_ | ((with_reducible refine Go.bool ?_ ?_) <;> intro hc <;> (try simp only [List.length_map, ne_eq, hcs] at hc) <;> try (exfalso; omega)))
        refine ⟨(1, .sl (n + 15) 1), by dsimp only; omega, aLess, _, _, Wk.ice1 (b := n + 7) (cb := n + 15) .any aRow aRow (ice_last (es := []) (by simp) (by simp)), by dsimp only; omega, aNx, fun b hb => Eq.trans aSkip (hk b hb), ⟨_, aRow⟩, ⟨_, aRow⟩, ⟨_, aRow⟩, ⟨_, aRow⟩, ⟨_, aRow⟩, ⟨_, aRow⟩, .inr ⟨n + 15, .any, by dsimp only; omega, rfl, by omega, aNx, ?_⟩⟩
        dsimp only
        rw [take_imF (by omega)]
        exact aRow
      · repeat' (first | ((with_reducible refine Go.red ?_); conv => whnf) | refine aG ?_ | exact aC | with_reducible refine Go.and ?_ ?_ | (apply Go.elem; (· (first | exact hgt _ | exact aElem))) | refine aH ?_ | ((with_reducible refine Go.bool ?_ ?_) <;> intro hc <;> (try simp only [List.length_map, ne_eq, hcs] at hc) <;> try (exfalso; omega)))
        refine ⟨(i + 1, .sl cb (i + 1)), by dsimp only; omega, ?_, _, _, Wk.ice1 (b := n + 7) (cb := cb) .any aRow aRow (ice_last ice_imFs (by simp)), by dsimp only; omega, aNx, fun b hb => Eq.trans aSkip (hk b hb), ⟨_, aRow⟩, ⟨_, aRow⟩, ⟨_, aRow⟩, ⟨_, aRow⟩, ⟨_, aRow⟩, ⟨_, aRow⟩, .inr ⟨cb, .any, by dsimp only; omega, rfl, hc1, aNx, ?_⟩⟩
        · exact aLess
        · dsimp only
          rw [take_imF (by omega)]
          exact aRow
    · have hil : i = x.after.length := by omega
      subst hil
      rcases hv with ⟨h0, rfl⟩ | ⟨cb, d, h0, rfl, hc1, hc2, rc⟩
      · repeat' (first | ((with_reducible refine Go.red ?_); conv => whnf) | refine aG ?_ | exact aC | with_reducible refine Go.and ?_ ?_ | (apply Go.elem; (· exact aElem)) | refine aH ?_ | ((with_reducible refine Go.bool ?_ ?_) <;> intro hc <;> (try simp only [List.length_map, ne_eq, hcs] at hc) <;> try (exfalso; omega)))
        simp only [Nat.zero_add, List.length_map]
        exact ⟨⟨aNx, fun b hb => Eq.trans aSkip (hk b hb), _, _, _, _, rfl, by omega, by omega, by omega, by omega, by omega, by omega, ⟨_, aRow⟩, ⟨_, aRow⟩, ⟨_, aRow⟩, .inl ⟨List.eq_nil_of_length_eq_zero h0, rfl⟩⟩⟩
      · rw [List.take_length] at rc
        repeat' (first | ((with_reducible refine Go.red ?_); conv => whnf) | refine aG ?_ | exact aC | with_reducible refine Go.and ?_ ?_ | (apply Go.elem; (· exact aElem)) | refine aH ?_ | ((with_reducible refine Go.bool ?_ ?_) <;> intro hc <;> (try simp only [List.length_map, ne_eq, hcs] at hc) <;> try (exfalso; omega)))
        simp only [Nat.zero_add, List.length_map]
        exact ⟨⟨aNx, fun b hb => Eq.trans aSkip (hk b hb), _, _, _, _, rfl, by omega, by omega, by omega, by omega, by omega, by omega, ⟨_, aRow⟩, ⟨_, aRow⟩, ⟨_, aRow⟩, .inr ⟨_, _, fun e => by rw [e] at h0; exact absurd h0 (by simp), rfl, by omega, by omega, by omega, by omega, aRow⟩⟩⟩
  · rintro r H n ⟨hn, hk, b1, b2, b3, v, rfl, p1, p2, p3, q1, q2, q3, ⟨d1, r1⟩, ⟨d2, r2⟩, ⟨d3, r3⟩, hv⟩
    rcases hv with ⟨ha, rfl⟩ | ⟨b4, d4, ha, rfl, p4, q4, q5, q6, r4⟩
    · have hw := Wk.iceR (nx := n) (r := .agg [.sl b1 x.first.length, .sl b2 x.events.length, .sl b3 x.frm.length, .sc (.slice none 0 0)]) [(b1, some (.row 2 1 d1 (x.first.map i64))), (b2, some (.row 50 5 d2 (x.events.map Deed.av))), (b3, some (.row 3 1 d3 (x.frm.map i64)))] 2 (get_cons r1 (get_cons r2 (get_cons r3 get_nil)))
      refine ⟨_, _, _, hw, ?_, hn, fun b hb => (goneH_out ?_).trans (hk b hb)⟩
      · unfold kAv
        rw [if_pos ha]
        show AV.agg [Go.Abs.ice _ 1 _, Go.Abs.ice _ 1 _, Go.Abs.ice _ 1 _, Go.Abs.ice _ 1 _] = _
        rw [ice_sl (getH_here _ _ _) (by simp), ice_sl ((getH_skipEq (Ne.symm q1)).trans (getH_here _ _ _)) (by simp), ice_sl ((getH_skipEq (Ne.symm q2)).trans ((getH_skipEq (Ne.symm q3)).trans (getH_here _ _ _))) (by simp), ice_zero, ice_zero, ice_zero, ice_sc]
        rfl
      · simp only [List.map_cons, List.map_nil, List.mem_cons, List.not_mem_nil, or_false]
        omega
    · have hw := Wk.iceR (nx := n) (r := .agg [.sl b1 x.first.length, .sl b2 x.events.length, .sl b3 x.frm.length, .sl b4 x.after.length]) [(b1, some (.row 2 1 d1 (x.first.map i64))), (b2, some (.row 50 5 d2 (x.events.map Deed.av))), (b3, some (.row 3 1 d3 (x.frm.map i64))), (b4, some (.row 29 1 d4 (x.after.map imF)))] 2 (get_cons r1 (get_cons r2 (get_cons r3 (get_cons r4 get_nil))))
      refine ⟨_, _, _, hw, ?_, hn, fun b hb => (goneH_out ?_).trans (hk b hb)⟩
      · unfold kAv
        rw [if_neg ha]
        show AV.agg [Go.Abs.ice _ 1 _, Go.Abs.ice _ 1 _, Go.Abs.ice _ 1 _, Go.Abs.ice _ 1 _] = _
        rw [ice_sl (getH_here _ _ _) (by simp), ice_sl ((getH_skipEq (Ne.symm q1)).trans (getH_here _ _ _)) (by simp), ice_sl ((getH_skipEq (Ne.symm q2)).trans ((getH_skipEq (Ne.symm q3)).trans (getH_here _ _ _))) (by simp), ice_sl ((getH_skipEq q4).trans ((getH_skipEq q5).trans ((getH_skipEq q6).trans (getH_here _ _ _)))) (by simp), ice_zero, ice_zero, ice_zero, ice_zero]
        rfl
      · simp only [List.map_cons, List.map_nil, List.mem_cons, List.not_mem_nil, or_false]
        omega
end Go.Proofs.Ytflicfkgbjmffaa
end
section
/- Line of rows. -/
namespace Go.Proofs.Ytflicfkgbjmffaa
open Go Go.Abs Go.Proofs V
set_option linter.unusedSimpArgs false
set_option linter.unusedVariables false
theorem frz_qrow {te e : TypeId} {b : Nat} {ids : List Nat} {S : List (List Int)} {H : Hp} (h : QAt te e 1 b ids (SI S) H) (k : Nat) : (qRow ids (SI S)).map (Abs.frz H (k + 1)) = S.map imF := by
  apply List.ext_getElem
  · rw [List.length_map, h.len, SI_len, List.length_map]
  · intro i p1 p2
    have hi : i < S.length := by simpa using p2
    have hi2 : i < (SI S).length := by rw [SI_len]; exact hi
    obtain ⟨d, hd⟩ := h.qs i hi2
    have hg := h.get hi2 .any
    rw [SI_get] at hd hg
    have hq : (qRow ids (SI S))[i]'(by simpa using p1) = .sl (ids.getD i 0) ((S.getD i []).map i64).length := by
      rw [← hg]; simp [List.getD, h.len, hi2]
    simp only [List.getElem_map, hq]
    rw [frz_sl hd rfl, frz_same _ ((fitL_map _ _).2 fun _ _ => by simp [fitA])]
    simp [List.getD, hi, imF]
theorem frz_exec {H : Hp} {y : Exec} {b1 b2 b3 b4 k1 k2 k3 k4 : Nat} {ids : List Nat} {t1 t2 t3 te e : TypeId} {d1 d2 d3 : AV} (h1 : getH H b1 = some (.row t1 1 d1 (y.first.map i64))) (h2 : getH H b2 = some (.row t2 5 d2 (y.events.map Deed.av))) (h3 : getH H b3 = some (.row t3 1 d3 (y.frm.map i64))) (h4 : QAt te e 1 b4 ids (SI y.after) H)
    (e1 : y.first.length = k1) (e2 : y.events.length = k2) (e3 : y.frm.length = k3) (e4 : y.after.length = k4) : [AV.agg [.sl b1 k1, .sl b2 k2, .sl b3 k3, .sl b4 k4]].map (Abs.frz H 6) = [y.fz] := by
  obtain ⟨d4, h5⟩ := h4.row
  show [AV.agg [Abs.frz H 5 (.sl b1 k1), Abs.frz H 5 (.sl b2 k2), Abs.frz H 5 (.sl b3 k3), Abs.frz H 5 (.sl b4 k4)]] = _
  rw [frz_sl h1 (by simpa using e1), frz_sl h2 (by simpa using e2), frz_sl h3 (by simpa using e3), frz_sl h5 (by rw [h4.len, SI_len]; exact e4), frz_qrow h4 3,
    frz_same _ ((fitL_map _ _).2 fun _ _ => by simp [fitA]), frz_same _ ((fitL_map _ _).2 fun _ _ => by simp [fitA]), frz_same _ ((fitL_map _ _).2 fun _ _ => by simp [fitA])]
  rfl
theorem flat_three (a b c : Value) : flatR (.tup [.sc a, .sc b, .sc c]) := by
  intro z hz
  simp only [List.mem_cons, List.not_mem_nil, or_false] at hz
  rcases hz with rfl | rfl | rfl <;> exact .inl ⟨_, rfl⟩
theorem XRow.frz {x : Exec} {fi ev fr af : Nat} {afs : List Nat} {H : Hp} (h : XRow x fi ev fr af afs H) : [AV.agg [.sl fi x.first.length, .sl ev x.events.length, .sl fr x.frm.length, .sl af x.after.length]].map (Abs.frz H 6) = [x.fz] := by
  obtain ⟨d1, h1⟩ := h.fi
  obtain ⟨d2, h2⟩ := h.ev
  obtain ⟨d3, h3⟩ := h.fr
  exact frz_exec h1 h2 h3 h.af rfl rfl rfl rfl
theorem Wk.nilT {H : Hp} {nx : Nat} {cs : List AV} (e : TypeId) (sz : Nat) (d : AV) (hsz : 0 < sz) : Wk (.tup (.sc (.slice none 0 0) :: cs)) H nx (.tup (.sl nx 0 :: cs)) ((nx, some (.row e sz d [])) :: H) (nx + 1) := by
  refine Wk.tell (Nat.le_succ _) (fun b e' sz' d' es he => ?_) (fun w0 c c2 hS hU hc hc2 hw hle hnew _ => ⟨?_, fun b e' sz' d' es d0 es0 h1 h2 => ?_⟩)
  · by_cases hb : b = nx
    · subst hb
      rw [getH_here] at he
      cases he
      exact .inr ⟨Nat.le_refl _, Nat.lt_succ_self _, rfl, hsz⟩
    · rw [getH_skipEq hb] at he
      exact .inl ⟨d', es, he, rfl⟩
  · have h := hnew nx e sz d (Nat.le_refl _) (getH_here _ _ _)
    exact AVle.tup (.cons (AVle.nil (e := e) (sz := sz) (d := d) h.1 (by rw [hc2, getH_here]) h.2) (AVles.keep hle _))
  · by_cases hb : b = nx
    · subst hb
      rw [getH_here] at h1
      cases h1
      have h3 : c.H b = some (.row e sz d0 es0) := by rw [hc]; exact h2
      exact absurd (hU _ (hS.row _ _ _ _ _ h3).1) (Nat.lt_irrefl _)
    · rw [getH_skipEq hb] at h1
      rw [h1] at h2
      cases h2
      exact AVles.keep hle _
def LineR (k lo b : Nat) (H : Hp) (n : Nat) : Prop := lo ≤ b ∧ b < n ∧ ∃ (d : AV) (es : List Int), es.length = k ∧ getH H b = some (.row 3 1 d (es.map i64))
theorem line_rows (x : Exec) (hx : x.Wf) {fi ev fr af nx : Nat} {afs : List Nat} {H : Hp} (h : XRow x fi ev fr af afs H) :
    CallN Try.prog 12 [.agg [.sl fi x.first.length, .sl ev x.events.length, .sl fr x.frm.length, .sl af x.after.length]] H nx (fun r H' n => nx ≤ n ∧ (∀ b, b < nx → getH H' b = getH H b) ∧ ∃ b, r = .tup [.sl b (lineL x).length, bl (lineB x), i64 (errN x)] ∧ LineR (lineL x).length nx b H' n) := by
  have hc := line_call x hx
  by_cases hl : lineL x = []
  · have hp := line_pure x hx
    rw [show lstAv (lineL x) = .sc (.slice none 0 0) by unfold lstAv; rw [if_pos hl]] at hp
    refine CallN.wk (R := fun r H' n => r = .tup [.sc (.slice none 0 0), bl (lineB x), i64 (errN x)] ∧ H' = H ∧ n = nx) (Abs.Pure.view (args2 := [x.fz]) (hp.args fun c => .cons (le_fz c x) .nil) h.frz (by simp [fitL]) (flat_three _ _ _) ⟨rfl, rfl, rfl⟩) ?_
    rintro _ _ _ ⟨rfl, rfl, rfl⟩
    refine ⟨_, _, _, Wk.nilT 3 1 .any (by omega), by omega, fun b hb => getH_skipEq (by omega), _, (by rw [hl] <;> rfl), by omega, by omega, .any, [], (by rw [hl] <;> rfl), getH_here _ _ _⟩
  · have h2 : CallN Try.prog 12 [x.fz] [] 0 (fun r H n => ∃ b d, r = .tup (.sl b ((lineL x).map i64).length :: [bl (lineB x), i64 (errN x)]) ∧ getH H b = some (.row 3 1 d ((lineL x).map i64))) := by
      refine (hc.args fun c => .cons (le_fz c x) .nil).mono ?_
      rintro r H n ⟨s, rfl, hs⟩
      rcases hs with ⟨h3, _⟩ | ⟨_, b, d, rfl, h4⟩
      · exact absurd h3 hl
      · exact ⟨b, d, by rw [List.length_map], h4⟩
    refine CallN.mono (CallN.freshT (H := H) (id := nx) h2 (fun i hi => by rw [getD_av (f := i64) (h := by simpa using hi)]; trivial) trivial .any h.frz (by simp [fitL])).toN ?_
    rintro r H' n ⟨⟨rfl, rfl⟩, rfl⟩
    refine ⟨by omega, fun b hb => getH_skipEq (by omega), nx, by rw [List.length_map], Nat.le_refl _, by omega, .any, lineL x, rfl, getH_here _ _ _⟩
end Go.Proofs.Ytflicfkgbjmffaa
end
section
/- What the machine does is right and tso: the walk. -/
namespace Go.Proofs.Ytflicfkgbjmffaa
open Go Go.Abs Go.Proofs V
set_option linter.unusedSimpArgs false
set_option linter.unusedVariables false
theorem gather_ok {o : V.Obj} (ho : o.Wf) (l : List V.StepV) (h : gathE o l = 0) : Pure Try.prog 7 [o.av, .im 2 .any (l.map V.StepV.av)] (fun r => r = .tup [(gathX o l).av, i64 0]) := by
  have h1 := gather_frz ho l
  rw [if_pos h] at h1
  exact weak_pure h1 (by simp [fitA, fitL]) (fun c => AVle.tup (.cons (le_fz c _) (.cons (fun _ hv => hv) .nil)))
theorem gather_err {o : V.Obj} (ho : o.Wf) (l : List V.StepV) (h : gathE o l ≠ 0) : Pure Try.prog 7 [o.av, .im 2 .any (l.map V.StepV.av)] (fun r => r = .tup [noX, i64 (gathE o l)]) := by
  have h1 := gather_frz ho l
  rw [if_neg h] at h1
  exact h1
end Go.Proofs.Ytflicfkgbjmffaa
end
section
/- Lists are their asker's own: the walk. -/
namespace Go.Proofs.Ytflicfkgbjmffaa
open Go Go.Abs Go.Proofs V
set_option linter.unusedSimpArgs false
set_option linter.unusedVariables false
theorem QAt_put {te e : TypeId} {sz b : Nat} {ids : List Nat} {S : List (List AV)} {H : Hp} (h : QAt te e sz b ids S H) {H' : Hp} {q : Nat} (hq : q < S.length) {l : List AV} (hl : l.length = (S.getD q []).length) (h1 : getH H' b = getH H b) (h2 : ∃ d, getH H' (ids.getD q 0) = some (.row e sz d l))
    (h3 : ∀ j, j < S.length → j ≠ q → ids.getD j 0 ≠ b → ids.getD j 0 ≠ ids.getD q 0 → getH H' (ids.getD j 0) = getH H (ids.getD j 0)) : QAt te e sz b ids (S.set q l) H' := by
  obtain ⟨d1, r1⟩ := h.row
  obtain ⟨d2, r2⟩ := h2
  refine QAt_same h hq l ⟨d1, _, h1.trans r1, ?_⟩ ⟨d2, _, r2, rfl⟩ h3
  have h5 : q < (qRow ids S).length := by rw [h.len]; exact hq
  exact (list_set_getD h5 (d := .any) (by rw [h.get hq, hl])).symm
theorem kahn_len {n : Nat} {M : Mat} : ∀ (f : Nat) (W : Nat → Int) (h out : List Int), (kahn n M f W h out).length ≤ out.length + f
  | 0, W, h, out => Nat.le_refl _
  | f + 1, W, h, out => by
    rw [kahn]
    split
    · omega
    · have := kahn_len (n := n) (M := M) f (relax M (popN h).toNat n 0 W (popL h)).1 (relax M (popN h).toNat n 0 W (popL h)).2 (out ++ [popN h])
      simp only [List.length_append, List.length_cons, List.length_nil] at this
      omega
theorem lineL_few (x : Exec) : (lineL x).length ≤ x.events.length + 1 := by
  unfold lineL
  split
  · have := kahn_len (n := x.events.length) (M := arrM x fun _ _ _ => true) (x.events.length + 1) (inN (arrM x fun _ _ _ => true) x.events.length) (newS x.events.length (inN (arrM x fun _ _ _ => true) x.events.length) x.events.length) []
    simp only [List.length_nil, Nat.zero_add] at this
    exact this
  · simp
theorem aft_few {o : V.Obj} (l : List V.StepV) (h : gathE o l = 0) (j : Nat) : (((gathX o l).after).getD j []).length ≤ 64 := by
  obtain ⟨τ, κ, now, gi, _, h64⟩ := gath_fin l h
  by_cases hj : j < o.mem.length
  · exact Nat.le_trans (gi.aLen hj) h64
  · have e : (gathG o l).aft.length = o.mem.length := gi.la
    have : ((gathX o l).after).getD j [] = [] := by
      show (gathG o l).aft.getD j [] = []
      simp only [List.getD, List.getElem?_eq_none (show (gathG o l).aft.length ≤ j by omega)]; rfl
    rw [this]; exact Nat.zero_le _
theorem kAv_agg (x : Exec) : ∃ a b c d, kAv x = .agg [a, b, c, d] ∧ allOne [a, b, c, d] = true ∧ fitL 0 [a, b, c, d] := by
  unfold kAv
  split
  · exact ⟨_, _, _, _, rfl, rfl, by simp [fitL, fitA, fitL_map, imF]⟩
  · exact ⟨_, _, _, _, rfl, rfl, by simp [fitL, fitA, fitL_map, imF]⟩
theorem st4 {e a b c d : AV} (h : allOne [a, b, c, d] = true) (he : ∃ cells, e = .agg cells) : stE true 4 e (.agg [a, b, c, d]) 4 0 = some (.agg [a, b, c, d]) := by
  obtain ⟨cells, rfl⟩ := he
  unfold stE
  dsimp only
  rw [if_pos ⟨rfl, h⟩, if_pos ⟨rfl, rfl⟩]
theorem copy_own (x : Exec) (hx : x.Wf) {fi ev fr af nx m n : Nat} {afs : List Nat} {H0 : Hp} (h : XRow x fi ev fr af afs H0) (hl : fi < nx ∧ ev < nx ∧ fr < nx ∧ af < nx ∧ ∀ y ∈ afs, y < nx) (l1 : x.first.length = m) (l2 : x.events.length = n) (l3 : x.frm.length = n) (l4 : x.after.length = m) :
    CallN Try.prog 11 [.agg [.sl fi m, .sl ev n, .sl fr n, .sl af m]] H0 nx (fun r H' n => r = kAv x ∧ nx ≤ n ∧ ∀ b, b < nx → getH H' b = getH H0 b) := by
  have h2 := copy_rows x hx h hl
  rw [l1, l2, l3, l4] at h2
  exact h2
theorem line_own (x : Exec) (hx : x.Wf) {fi ev fr af nx m n : Nat} {afs : List Nat} {H : Hp} (h : XRow x fi ev fr af afs H) (l1 : x.first.length = m) (l2 : x.events.length = n) (l3 : x.frm.length = n) (l4 : x.after.length = m) :
    CallN Try.prog 12 [.agg [.sl fi m, .sl ev n, .sl fr n, .sl af m]] H nx (fun r H' n => nx ≤ n ∧ (∀ b, b < nx → getH H' b = getH H b) ∧ ∃ b, r = .tup [.sl b (lineL x).length, bl (lineB x), i64 (errN x)] ∧ LineR (lineL x).length nx b H' n) := by
  have h2 := line_rows x hx (nx := nx) h
  rw [l1, l2, l3, l4] at h2
  exact h2
structure OwnB (o : V.Obj) (m n fi ev fr af b5 b7 : Nat) (kv : AV) (H : Hp) : Prop where
  obj : getH H 0 = some (.row 25 5 .any [o.av])
  x5 : ∃ d, getH H b5 = some (.row 32 4 d [.agg [.sl fi m, .sl ev n, .sl fr n, .sl af m]])
  k7 : ∃ d, getH H b7 = some (.row 32 4 d [kv])
  fi : ∃ (d : AV) (es : List Int), es.length = m ∧ getH H fi = some (.row 2 1 d (es.map i64))
  ev : ∃ (d : AV) (es : List Deed), es.length = n ∧ getH H ev = some (.row 50 5 d (es.map Deed.av))
  fr : ∃ (d : AV) (es : List Int), es.length = n ∧ getH H fr = some (.row 3 1 d (es.map i64))
theorem OwnB.keep {o : V.Obj} {m n fi ev fr af b5 b7 : Nat} {kv : AV} {H H' : Hp} (h : OwnB o m n fi ev fr af b5 b7 kv H) (hk : ∀ b, b = 0 ∨ b = b5 ∨ b = b7 ∨ b = fi ∨ b = ev ∨ b = fr → getH H' b = getH H b) : OwnB o m n fi ev fr af b5 b7 kv H' := by
  refine ⟨?_, ?_, ?_, ?_, ?_, ?_⟩
  · rw [hk 0 (by simp)]; exact h.obj
  · rw [hk b5 (by simp)]; exact h.x5
  · rw [hk b7 (by simp)]; exact h.k7
  · rw [hk fi (by simp)]; exact h.fi
  · rw [hk ev (by simp)]; exact h.ev
  · rw [hk fr (by simp)]; exact h.fr
structure AfB (m B af : Nat) (afs : List Nat) (W : List (List Int)) (H : Hp) : Prop where
  len : W.length = m
  few : ∀ j, (W.getD j []).length ≤ B
  at' : QI af afs W H
theorem AfB.keep {m B af : Nat} {afs : List Nat} {W : List (List Int)} {H H' : Hp} (h : AfB m B af afs W H) (hk : ∀ b, b ∈ af :: afs → getH H' b = getH H b) : AfB m B af afs W H' := ⟨h.len, h.few, h.at'.keep hk⟩
theorem set_few {W : List (List Int)} {B C i : Nat} {l : List Int} (h : ∀ j, (W.getD j []).length ≤ B) (hB : B ≤ C) (hl : l.length ≤ C) (j : Nat) : ((W.set i l).getD j []).length ≤ C := by
  by_cases hi : i < W.length
  · rw [gD_set hi]
    split
    · exact hl
    · exact Nat.le_trans (h j) hB
  · rw [List.set_eq_of_length_le (by omega)]; exact Nat.le_trans (h j) hB
set_option maxHeartbeats 4000000 in
theorem own_ok {o : V.Obj} (ho : o.Wf) (l : List V.StepV) (he : gathE o l = 0) : Pure Try.prog 5 [o.av, .im 2 .any (l.map V.StepV.av)] (fun r => r = bl true) := by
  have hx := gath_wf ho l he
  have h5 := gather_ok ho l he
  have hsame := same_pure (gathX o l) (gathX o l) hx hx
  rw [show decide (gathX o l = gathX o l) = true from decide_eq_true rfl] at hsame
  have hsm := hsame.args (fun c => .cons (kAv_le _ c) (.cons (fun _ hv => hv) .nil))
  refine Go.pure Try.func5 nm5 low5 res5 nt5 rfl ?_
  repeat' (first | ((with_reducible refine Go.red ?_); conv => whnf) | refine aG ?_ | exact aC | with_reducible refine Go.and ?_ ?_ | (apply Go.elem; (· exact aElem)) | ((with_reducible refine Go.callW (begins_pure) ?_ ?_); (· exact aFit)) | ((with_reducible refine Go.callJ (fun _ => begins_pure) ?_ ?_); (· exact aFit)) | ((with_reducible refine Go.callE (begins_pure) ?_ ?_); (· exact aFit)) | ((with_reducible refine Go.callF (fun _ => begins_pure) ?_ ?_); (· exact aFit)) | refine aH ?_ | ((with_reducible refine Go.bool ?_ ?_) <;> intro hc <;> (try simp only [List.length_map, ne_eq, hcs] at hc) <;> try (exfalso; omega)))
  refine Go.callN (gather_call ho l _ _) ?_
  rintro r H1 n1 ⟨hn1, hk1, hr⟩
  rw [if_pos he] at hr
  obtain ⟨L, rfl, hG, hlo⟩ := hr
  have e0 : getH H1 0 = some (.row 25 5 .any [o.av]) := (hk1 0 (by omega)).trans rfl
  have hn : 4 ≤ n1 := by omega
  have hown : ∀ y ∈ L.own, 1 ≤ y ∧ y < n1 := fun y hy => ⟨by have := hlo y (List.mem_append_left _ hy); omega, hG.lt y (List.mem_append_left _ hy)⟩
  have hX : XRow (gathX o l) L.fi L.ev L.fr L.af L.afs H1 := ⟨hG.fi, hG.ev, hG.fr, hG.af⟩
  clear hk1 hlo hn1
  repeat' (first | ((with_reducible refine Go.red ?_); conv => whnf) | refine aG ?_ | exact aC | with_reducible refine Go.and ?_ ?_ | (apply Go.elem; (· exact aElem)) | refine aH ?_ | ((with_reducible refine Go.bool ?_ ?_) <;> intro hc <;> (try simp only [List.length_map, ne_eq, hcs] at hc) <;> try (exfalso; omega)))
  have k1 : (gathX o l).first.length = o.mem.length := rfl
  have k2 : (gathX o l).events.length = (gathG o l).ev.length := rfl
  have k3 : (gathX o l).frm.length = (gathG o l).ev.length := hG.lf
  have k4 : (gathX o l).after.length = o.mem.length := hG.laf
  have olt : L.fi < n1 ∧ L.ev < n1 ∧ L.fr < n1 ∧ L.af < n1 ∧ ∀ y ∈ L.afs, y < n1 := ⟨(hown _ (by simp [GLay.own])).2, (hown _ (by simp [GLay.own])).2, (hown _ (by simp [GLay.own])).2, (hown _ (by simp [GLay.own])).2, fun y hy => (hown y (by simp [GLay.own, hy])).2⟩
  refine Go.callN (copy_own (gathX o l) hx (hX.keep olt aKeep) ⟨by omega, by omega, by omega, by omega, fun y hy => by have := olt.2.2.2.2 y hy; omega⟩ k1 k2 k3 k4) ?_
  rintro r H2 n2 ⟨hr, hn2, hk2⟩
  obtain ⟨ka, kb, kc, kd, hkv, hone, hf4⟩ := kAv_agg (gathX o l)
  have hfit : fitL 0 [.agg [ka, kb, kc, kd], (gathX o l).av] := by
    simp [fitL, fitA] at hf4 ⊢
    exact hf4
  rw [hkv] at hr hsm
  subst hr
  have r5 : getH H2 (n1 + 3) = some (.row 32 4 _ [.agg [.sl L.fi o.mem.length, .sl L.ev (gathG o l).ev.length, .sl L.fr (gathG o l).ev.length, .sl L.af o.mem.length]]) := (hk2 _ (by omega)).trans aRow
  have e2 : getH H2 0 = some (.row 25 5 .any [o.av]) := (hk2 _ (by omega)).trans aRow
  have hk2' : ∀ b, b < n1 → getH H2 b = getH H1 b := fun b hb => (hk2 b (by omega)).trans aSkip
  have hX2 := hX.keep olt hk2'
  clear hk2 hX hk2' e0
  repeat' (first | ((with_reducible refine Go.red ?_); conv => whnf) | refine aG ?_ | exact aC | with_reducible refine Go.and ?_ ?_ | (apply Go.elem; (· exact aElem)) | (apply Go.gives; (· exact st4 hone ⟨_, rfl⟩)) | refine aH ?_ | ((with_reducible refine Go.bool ?_ ?_) <;> intro hc <;> (try simp only [List.length_map, ne_eq, hcs] at hc) <;> try (exfalso; omega)))
  refine Go.callN (line_own (gathX o l) hx (hX2.keep olt aKeep) k1 k2 k3 k4) ?_
  rintro r H3 n3 ⟨hn3, hk3, b8, rfl, hv8⟩
  have hl8 : (lineL (gathX o l)).length < 9000000000000000000 := by have h1 := lineL_few (gathX o l); have h2 := hx.eventslen; omega
  have r5' : getH H3 (n1 + 3) = some (.row 32 4 _ [.agg [.sl L.fi o.mem.length, .sl L.ev (gathG o l).ev.length, .sl L.fr (gathG o l).ev.length, .sl L.af o.mem.length]]) := (hk3 _ (by omega)).trans aRow
  have r7' : getH H3 n2 = some (.row 32 4 _ [.agg [ka, kb, kc, kd]]) := (hk3 _ (by omega)).trans aRow
  have e3 : getH H3 0 = some (.row 25 5 .any [o.av]) := (hk3 _ (by omega)).trans aRow
  have hk3' : ∀ b, b < n1 → getH H3 b = getH H2 b := fun b hb => (hk3 b (by omega)).trans aSkip
  have hX3 := hX2.keep olt hk3'
  have hB : OwnB o o.mem.length (gathG o l).ev.length L.fi L.ev L.fr L.af (n1 + 3) n2 (.agg [ka, kb, kc, kd]) H3 := by
    obtain ⟨d1, q1⟩ := hX3.fi
    obtain ⟨d2, q2⟩ := hX3.ev
    obtain ⟨d3, q3⟩ := hX3.fr
    exact ⟨e3, ⟨_, r5'⟩, ⟨_, r7'⟩, ⟨_, _, k1, q1⟩, ⟨_, _, k2, q2⟩, ⟨_, _, k3, q3⟩⟩
  have hA : AfB o.mem.length 64 L.af L.afs (gathX o l).after H3 := ⟨k4, aft_few l he, hX3.af⟩
  clear hk3 hk3' hX3 hX2 r5 r5' r7' e2 e3
  repeat' (first | ((with_reducible refine Go.red ?_); conv => whnf) | refine aG ?_ | exact aC | with_reducible refine Go.and ?_ ?_ | (apply Go.elem; (· exact aElem)) | refine aH ?_ | ((with_reducible refine Go.bool ?_ ?_) <;> intro hc <;> (try simp only [List.length_map, ne_eq, hcs] at hc) <;> try (exfalso; omega)))
  generalize hk8 : (lineL (gathX o l)).length = k8 at *
  obtain ⟨l1, l2, l3, l4, l5⟩ := olt
  obtain ⟨a1, a2, a3, a4, a5, a6, a7, a8, a9, b1, paf, pw, paw, pM⟩ := GLay.apart hG.nodup
  obtain ⟨c1, c2, c3, c4, c5⟩ := paf L.af (by simp)
  have z1 := (hown L.fi (by simp [GLay.own])).1
  have z2 := (hown L.ev (by simp [GLay.own])).1
  have z3 := (hown L.fr (by simp [GLay.own])).1
  have z4 := (hown L.af (by simp [GLay.own])).1
  have z5 : ∀ y ∈ L.afs, 1 ≤ y := fun y hy => (hown y (by simp [GLay.own, hy])).1
  generalize L.fi = fi at *
  generalize L.ev = ev at *
  generalize L.fr = fr at *
  generalize L.af = af at *
  generalize L.afs = afs at *
  generalize o.mem.length = m at *
  generalize (gathG o l).ev.length = ne at *
  clear hG
  refine Go.loop (fun i : Nat => [(1, .im 2 .any (l.map V.StepV.av)), (2, .pt 0 1 0 0), (5, .pt (n1 + 3) 1 0 0), (6, i64 0), (7, .pt n2 1 0 0), (8, .sl b8 k8), (11, i64 i)])
    (fun i H n => i ≤ k8 ∧ n3 ≤ n ∧ OwnB o m ne fi ev fr af (n1 + 3) n2 (.agg [ka, kb, kc, kd]) H ∧ AfB m 64 af afs (gathX o l).after H ∧ LineR k8 (n2 + 1 + 1 + 1) b8 H n) (fun i => k8 - i) 0 aLess ⟨Nat.zero_le _, aNx, hB.keep (fun b hb => by rcases hb with rfl | rfl | rfl | rfl | rfl | rfl <;> exact aSkip), hA.keep (fun b hb => (List.mem_cons.1 hb).elim (fun e => by subst e; exact aSkip) (fun hm => by have := l5 _ hm; exact aSkip)), by have := hv8.1; omega, by have := hv8.2.1; omega, ?_⟩ ?_
  · obtain ⟨_, _, d8, es8, q8, r8⟩ := hv8
    exact ⟨d8, es8, q8, aRow⟩
  clear hB hA hv8
  rintro i H n ⟨hi, hn', hB, hA, h81, h82, d8, es8, q8, r8⟩
  by_cases hik : i < k8
  · have hg8 : ∀ d, (es8.map i64).getD ((i : Int)).toNat d = i64 (es8.getD i 0) := fun d => getD_av i64 _ _ _ (by omega)
    repeat' (first | ((with_reducible refine Go.red ?_); conv => whnf) | refine aG ?_ | exact aC | with_reducible refine Go.and ?_ ?_ | (apply Go.elem; (· (first | exact hg8 _ | exact aElem))) | refine aH ?_ | ((with_reducible refine Go.bool ?_ ?_) <;> intro hc <;> (try simp only [List.length_map, ne_eq, hcs] at hc) <;> try (exfalso; omega)))
    refine ⟨i + 1, by omega, aLess, by omega, aNx, hB.keep (fun b hb => by rcases hb with rfl | rfl | rfl | rfl | rfl | rfl <;> exact aSkip), hA.keep (fun b hb => (List.mem_cons.1 hb).elim (fun e => by subst e; exact aSkip) (fun hm => by have := l5 _ hm; exact aSkip)), by omega, aNx, d8, es8.set i (-1), by rw [List.length_set]; exact q8, by rw [List.map_set]; exact aRow⟩
  · have hik2 : i = k8 := by omega
    subst hik2
    repeat' (first | ((with_reducible refine Go.red ?_); conv => whnf) | refine aG ?_ | exact aC | with_reducible refine Go.and ?_ ?_ | (apply Go.elem; (· exact aElem)) | refine aH ?_ | ((with_reducible refine Go.bool ?_ ?_) <;> intro hc <;> (try simp only [List.length_map, ne_eq, hcs] at hc) <;> try (exfalso; omega)))
    have hm24 : m * 24 ≤ 140737488351232 := by have := hx.afterlen; rw [k4] at this; exact this
    have hn40 : ne * 40 ≤ 140737488351232 := by have := hx.eventslen; rw [k2] at this; exact this
    have hA0 : AfB m (64 + 2 * 0) af afs (gathX o l).after H := hA
    clear hA h81 h82 r8
    refine Go.loop (fun i : Nat => [(1, .im 2 .any (l.map V.StepV.av)), (2, .pt 0 1 0 0), (5, .pt (n1 + 3) 1 0 0), (6, i64 0), (7, .pt n2 1 0 0), (12, i64 i)]) (fun i H n => i ≤ m ∧ n3 ≤ n ∧ OwnB o m ne fi ev fr af (n1 + 3) n2 (.agg [ka, kb, kc, kd]) H ∧ ∃ W, AfB m (64 + 2 * i) af afs W H) (fun i => m - i) 0 aLess ⟨Nat.zero_le _, aNx, hB.keep (fun b hb => by rcases hb with rfl | rfl | rfl | rfl | rfl | rfl <;> exact aSkip), _, hA0.keep (fun b hb => (List.mem_cons.1 hb).elim (fun e => by subst e; exact aSkip) (fun hm => by have := l5 _ hm; exact aSkip))⟩ ?_
    clear hB hA0
    rintro i H n ⟨hi, hn', hB, W, hA⟩
    obtain ⟨d5, r5⟩ := hB.x5
    obtain ⟨d4, r4⟩ := hA.at'.row
    have hlq : (qRow afs (SI W)).length = m := by rw [hA.at'.len, SI_len]; exact hA.len
    by_cases him : i < m
    · skip
      have hiW : i < W.length := by rw [hA.len]; exact him
      have hgt := SI_row hA.at' hiW
      obtain ⟨d7, r7⟩ := SI_at hA.at' hiW
      have hmi := SI_in hA.at' hiW
      obtain ⟨g1, g2, g3, g4, g5⟩ := paf _ (List.mem_cons_of_mem _ hmi)
      have g6 := l5 _ hmi
      have g7 := z5 _ hmi
      have g8 := hA.at'.ne (q := i) (by rw [SI_len]; exact hiW)
      have hfw := hA.few i
      repeat' (first | ((with_reducible refine Go.red ?_); conv => whnf) | refine aG ?_ | exact aC | with_reducible refine Go.and ?_ ?_ | (apply Go.elem; (· (first | exact hgt _ | exact aElem))) | refine aH ?_ | ((with_reducible refine Go.bool ?_ ?_) <;> intro hc <;> (try simp only [List.length_map, ne_eq, hcs] at hc) <;> try (exfalso; omega)))
      refine Go.loop (fun k : Nat => [(1, .im 2 .any (l.map V.StepV.av)), (2, .pt 0 1 0 0), (5, .pt (n1 + 3) 1 0 0), (6, i64 0), (7, .pt n2 1 0 0), (12, i64 i), (13, i64 k)]) (fun k H n' => k ≤ (W.getD i []).length ∧ n ≤ n' ∧ OwnB o m ne fi ev fr af (n1 + 3) n2 (.agg [ka, kb, kc, kd]) H ∧ ∃ W2, AfB m (64 + 2 * i) af afs W2 H ∧ (W2.getD i []).length = (W.getD i []).length) (fun k => (W.getD i []).length - k) 0 aLess ⟨Nat.zero_le _, aNx, hB.keep (fun b hb => by rcases hb with rfl | rfl | rfl | rfl | rfl | rfl <;> exact aSkip), _, hA.keep (fun b hb => (List.mem_cons.1 hb).elim (fun e => by subst e; exact aSkip) (fun hm => by have := l5 _ hm; exact aSkip)), rfl⟩ ?_
      generalize (W.getD i []).length = wi at *
      clear hB hA r5 r4 hlq hiW hgt r7
      rintro k H n' ⟨hk, hn2', hB, W2, hA, hw2⟩
      obtain ⟨d5, r5⟩ := hB.x5
      obtain ⟨d4, r4⟩ := hA.at'.row
      have hlq : (qRow afs (SI W2)).length = m := by rw [hA.at'.len, SI_len]; exact hA.len
      have hiW : i < W2.length := by rw [hA.len]; exact him
      have hgt : ∀ d, (qRow afs (SI W2)).getD i d = .sl (afs.getD i 0) wi := fun d => by rw [← hw2]; exact SI_row hA.at' hiW d
      obtain ⟨d7, r7⟩ := SI_at hA.at' hiW
      have hlw : ((W2.getD i []).map i64).length = wi := by rw [List.length_map]; exact hw2
      by_cases hkw : k < wi
      · have hge : ∀ d, ((W2.getD i []).map i64).getD ((k : Int)).toNat d = i64 ((W2.getD i []).getD k 0) := fun d => getD_av i64 _ _ _ (by omega)
        repeat' (first | ((with_reducible refine Go.red ?_); conv => whnf) | refine aG ?_ | exact aC | with_reducible refine Go.and ?_ ?_ | (apply Go.elem; (· (first | exact hgt _ | exact hge _ | exact aElem))) | refine aH ?_ | ((with_reducible refine Go.bool ?_ ?_) <;> intro hc <;> (try simp only [List.length_map, ne_eq, hcs] at hc) <;> try (exfalso; omega)))
        refine ⟨k + 1, by omega, aLess, by omega, aNx, hB.keep (fun b hb => by rcases hb with rfl | rfl | rfl | rfl | rfl | rfl <;> exact aSkip), W2.set i ((W2.getD i []).set k (-1)), ⟨by rw [List.length_set]; exact hA.len, set_few hA.few (Nat.le_refl _) (by rw [List.length_set, hw2]; exact hfw), ?_⟩, by rw [gD_set hiW, if_pos rfl, List.length_set]; exact hw2⟩
        show QAt _ _ 1 _ _ (SI (W2.set i ((W2.getD i []).set k (-1)))) _
        rw [SI_set]
        refine QAt_put hA.at' (by rw [SI_len]; exact hiW) (by rw [SI_get, List.length_map, List.length_map, List.length_set]) aSkip ⟨_, by rw [List.map_set]; exact aRow⟩ (fun j hj m1 m2 m3 => ?_)
        have hjl := l5 _ (getD_mem (l := afs) (q := j) (by rw [hA.at'.lens]; exact hj))
        exact aSkip
      · have hkw2 : k = wi := by omega
        subst hkw2
        repeat' (first | ((with_reducible refine Go.red ?_); conv => whnf) | refine aG ?_ | exact aCn | with_reducible refine Go.and ?_ ?_ | ((with_reducible refine Ask.mk ?_); first | exact aAsk | (refine app_le (m := 2) rfl ?_; omega) | exact aAsk2) | (apply Go.elem; (· (first | exact hgt _ | exact aElem))) | refine aH ?_ | ((with_reducible refine Go.bool ?_ ?_) <;> intro hc <;> (try simp only [List.length_map, ne_eq, hcs] at hc) <;> try (exfalso; omega)))
        refine ⟨i + 1, by omega, aLess, by omega, aNx, hB.keep (fun b hb => by rcases hb with rfl | rfl | rfl | rfl | rfl | rfl <;> exact aSkip), W2.set i (W2.getD i [] ++ [1, 2]), ⟨by rw [List.length_set]; exact hA.len, set_few hA.few (by omega) (by rw [List.length_append, hw2]; simp only [List.length_cons, List.length_nil]; omega), ?_⟩⟩
        show QAt _ _ 1 _ _ (SI (W2.set i (W2.getD i [] ++ [1, 2]))) _
        rw [SI_set]
        refine QAt_same hA.at' (by rw [SI_len]; exact hiW) _ ⟨_, _, aRow, ?_⟩ ⟨_, _, aRow, ?_⟩ (fun j hj m1 m2 m3 => ?_)
        · simp only [List.length_map, List.length_append, List.length_cons, List.length_nil, Int.toNat_natCast, hw2]; rfl
        · rw [List.map_append]; rfl
        · have hjl := l5 _ (getD_mem (l := afs) (q := j) (by rw [hA.at'.lens]; exact hj))
          exact aSkip
    · have him2 : i = m := by omega
      subst him2
      repeat' (first | ((with_reducible refine Go.red ?_); conv => whnf) | refine aG ?_ | exact aC | with_reducible refine Go.and ?_ ?_ | (apply Go.elem; (· exact aElem)) | refine aH ?_ | ((with_reducible refine Go.bool ?_ ?_) <;> intro hc <;> (try simp only [List.length_map, ne_eq, hcs] at hc) <;> try (exfalso; omega)))
      clear hA r4 hlq r5
      refine Go.loop (fun i' : Nat => [(1, .im 2 .any (l.map V.StepV.av)), (2, .pt 0 1 0 0), (5, .pt (n1 + 3) 1 0 0), (6, i64 0), (7, .pt n2 1 0 0), (14, i64 i')]) (fun i' H n => i' ≤ ne ∧ n3 ≤ n ∧ OwnB o i ne fi ev fr af (n1 + 3) n2 (.agg [ka, kb, kc, kd]) H) (fun i => ne - i) 0 aLess ⟨Nat.zero_le _, aNx, hB.keep (fun b hb => by rcases hb with rfl | rfl | rfl | rfl | rfl | rfl <;> exact aSkip)⟩ ?_
      clear hB
      rintro j H n ⟨hj, hnj, hB⟩
      obtain ⟨d5, r5⟩ := hB.x5
      obtain ⟨dv, E, qe, re⟩ := hB.ev
      obtain ⟨dr, R, qr, rr⟩ := hB.fr
      have hle : (E.map Deed.av).length = ne := by rw [List.length_map]; exact qe
      have hlr : (R.map i64).length = ne := by rw [List.length_map]; exact qr
      by_cases hjn : j < ne
      · have hge : ∀ d, (E.map Deed.av).getD ((j : Int)).toNat d = (E.getD j default).av := fun d => getD_av Deed.av _ _ _ (by omega)
        have hgr : ∀ d, (R.map i64).getD ((j : Int)).toNat d = i64 (R.getD j 0) := fun d => getD_av i64 _ _ _ (by omega)
        repeat' (first | ((with_reducible refine Go.red ?_); conv => whnf) | refine aG ?_ | exact aCn | with_reducible refine Go.and ?_ ?_ | ((with_reducible refine Ask.mk ?_); first | exact aAsk | exact aAsk2 | (intro h; simp_all [Deed.cells] <;> fail) | (simp_all [Deed.cells] <;> fail)) | (apply Go.elem; (· (first | exact hge _ | exact hgr _ | exact aElem))) | refine aH ?_ | ((with_reducible refine Go.bool ?_ ?_) <;> intro hc <;> (try simp only [List.length_map, ne_eq, hcs] at hc) <;> try (exfalso; omega)))
        obtain ⟨df, Fi, qf, rf⟩ := hB.fi
        obtain ⟨dk, rk⟩ := hB.k7
        have ro := hB.obj
        refine ⟨j + 1, by omega, aLess, by omega, aNx, aRow, ⟨_, aRow⟩, ⟨_, aRow⟩, ⟨df, Fi, qf, aRow⟩, ⟨_, E.set j default, by rw [List.length_set]; exact qe, by rw [List.map_set]; exact aRow⟩, ⟨_, R.set j 9, by rw [List.length_set]; exact qr, by rw [List.map_set]; exact aRow⟩⟩
      · have hjn2 : j = ne := by omega
        subst hjn2
        repeat' (first | ((with_reducible refine Go.red ?_); conv => whnf) | refine aG ?_ | exact aC | with_reducible refine Go.and ?_ ?_ | (apply Go.elem; (· exact aElem)) | refine aH ?_ | ((with_reducible refine Go.bool ?_ ?_) <;> intro hc <;> (try simp only [List.length_map, ne_eq, hcs] at hc) <;> try (exfalso; omega)))
        clear r5 re rr hle hlr qe qr
        refine Go.loop (fun q : Nat => [(1, .im 2 .any (l.map V.StepV.av)), (2, .pt 0 1 0 0), (5, .pt (n1 + 3) 1 0 0), (6, i64 0), (7, .pt n2 1 0 0), (15, i64 q)]) (fun q H n => q ≤ i ∧ n3 ≤ n ∧ OwnB o i j fi ev fr af (n1 + 3) n2 (.agg [ka, kb, kc, kd]) H) (fun q => i - q) 0 aLess ⟨Nat.zero_le _, aNx, hB.keep (fun b hb => by rcases hb with rfl | rfl | rfl | rfl | rfl | rfl <;> exact aSkip)⟩ ?_
        clear hB
        rintro q H n ⟨hq, hnq, hB⟩
        obtain ⟨d5, r5⟩ := hB.x5
        obtain ⟨df, Fi, qf, rf⟩ := hB.fi
        have hlf : (Fi.map i64).length = i := by rw [List.length_map]; exact qf
        by_cases hqm : q < i
        · have hgf : ∀ d, (Fi.map i64).getD ((q : Int)).toNat d = i64 (Fi.getD q 0) := fun d => getD_av i64 _ _ _ (by omega)
          repeat' (first | ((with_reducible refine Go.red ?_); conv => whnf) | refine aG ?_ | exact aC | with_reducible refine Go.and ?_ ?_ | (apply Go.elem; (· (first | exact hgf _ | exact aElem))) | refine aH ?_ | ((with_reducible refine Go.bool ?_ ?_) <;> intro hc <;> (try simp only [List.length_map, ne_eq, hcs] at hc) <;> try (exfalso; omega)))
          obtain ⟨dv, E, qe, re⟩ := hB.ev
          obtain ⟨dr, R, qr, rr⟩ := hB.fr
          obtain ⟨dk, rk⟩ := hB.k7
          have ro := hB.obj
          refine ⟨q + 1, by omega, aLess, by omega, aNx, aRow, ⟨_, aRow⟩, ⟨_, aRow⟩, ⟨_, Fi.set q 77, by rw [List.length_set]; exact qf, by rw [List.map_set]; exact aRow⟩, ⟨dv, E, qe, aRow⟩, ⟨dr, R, qr, aRow⟩⟩
        · have hqm2 : q = i := by omega
          subst hqm2
          have ro := hB.obj
          obtain ⟨dk, rk⟩ := hB.k7
          repeat' (first | ((with_reducible refine Go.red ?_); conv => whnf) | refine aG ?_ | exact aCn | with_reducible refine Go.and ?_ ?_ | ((with_reducible refine Ask.mk ?_); first | exact aAsk | exact aAsk2 | (intro h; simp_all [Exec.cells] <;> fail) | (simp_all [Exec.cells] <;> fail)) | (apply Go.elem; (· exact aElem)) | ((with_reducible refine Go.callW (h5) ?_ ?_); (· exact aFit)) | ((with_reducible refine Go.callJ (fun _ => h5) ?_ ?_); (· exact aFit)) | ((with_reducible refine Go.callE (h5) ?_ ?_); (· exact aFit)) | ((with_reducible refine Go.callF (fun _ => h5) ?_ ?_); (· exact aFit)) | refine aH ?_ | ((with_reducible refine Go.bool ?_ ?_) <;> intro hc <;> (try simp only [List.length_map, ne_eq, hcs] at hc) <;> try (exfalso; omega)))
          refine Go.callW hsm hfit ?_
          repeat' (first | ((with_reducible refine Go.red ?_); conv => whnf) | refine aG ?_ | exact aC | with_reducible refine Go.and ?_ ?_ | (apply Go.elem; (· exact aElem)) | refine aH ?_ | ((with_reducible refine Go.bool ?_ ?_) <;> intro hc <;> (try simp only [List.length_map, ne_eq, hcs] at hc) <;> try (exfalso; omega)))
          exact rfl
end Go.Proofs.Ytflicfkgbjmffaa
end
section
/- Lists are their asker's own: where nothing is gathered. -/
namespace Go.Proofs.Ytflicfkgbjmffaa
open Go Go.Abs Go.Proofs V
set_option linter.unusedSimpArgs false
set_option linter.unusedVariables false
def x0 : Exec := ⟨[], [], [], []⟩
theorem x0_wf : x0.Wf := by
  constructor <;> first | decide | (intro i hi; simp [x0] at hi) | simp [x0]
theorem x0_le (c : Cx) : AVle c c noX x0.av :=
  AVle.agg (.cons (Abs.AVle.nilIm c c _ _) (.cons (Abs.AVle.nilIm c c _ _) (.cons (Abs.AVle.nilIm c c _ _) (.cons (Abs.AVle.nilIm c c _ _) .nil))))
set_option maxHeartbeats 2000000 in
theorem copy_nil : Abs.Pure Try.prog 11 [noX] (fun r => r = .agg [.im 1 .any [], .im 5 .any [], .im 1 .any [], .sc (.slice none 0 0)]) := by
  refine pure_of_call (CallN.mono (R := fun r H n => ∃ b1 b2 b3, r = .agg [.sl b1 0, .sl b2 0, .sl b3 0, .sc (.slice none 0 0)] ∧ (∃ d, getH H b1 = some (.row 2 1 d [])) ∧ (∃ d, getH H b2 = some (.row 50 5 d [])) ∧ ∃ d, getH H b3 = some (.row 3 1 d [])) ?_ ?_) (by simp [fitL, fitA, imF])
  · refine Go.fn Try.func11 nm11 low11 res11 nt11 rfl ?_
    repeat' (first | ((with_reducible refine Go.red ?_); conv => whnf) | refine aG ?_ | exact aC | with_reducible refine Go.and ?_ ?_ | (apply Go.elem; (· exact aElem)) | refine aH ?_ | ((with_reducible refine Go.bool ?_ ?_) <;> intro hc <;> (try simp only [List.length_map, ne_eq, hcs] at hc) <;> try (exfalso; omega)))
    refine Go.loop (fun _ : Unit => [(1, .pt 0 1 0 0), (2, .pt 1 1 0 0), (3, .pt 15 1 0 0), (4, i64 0)])
      (fun _ H n => 16 ≤ n ∧ (∃ d, getH H 0 = some (.row 32 4 d [noX])) ∧ (∃ d, getH H 1 = some (.row 32 4 d [noX])) ∧ (∃ d, getH H 2 = some (.row 2 1 d [])) ∧ (∃ d, getH H 6 = some (.row 50 5 d [])) ∧ (∃ d, getH H 10 = some (.row 3 1 d [])) ∧
        (∃ d, getH H 15 = some (.row 32 4 d [.agg [.sl 2 0, .sl 6 0, .sl 10 0, .sc (.slice none 0 0)]]))) (fun _ => 0) () aLess ⟨aNx, ⟨_, aRow⟩, ⟨_, aRow⟩, ⟨_, aRow⟩, ⟨_, aRow⟩, ⟨_, aRow⟩, ⟨_, aRow⟩⟩ ?_
    rintro _ H n ⟨hn, ⟨d0, r0⟩, ⟨d1, r1⟩, ⟨d2, r2⟩, ⟨d6, r6⟩, ⟨d10, r10⟩, ⟨d15, r15⟩⟩
    repeat' (first | ((with_reducible refine Go.red ?_); conv => whnf) | refine aG ?_ | exact aC | with_reducible refine Go.and ?_ ?_ | (apply Go.elem; (· exact aElem)) | refine aH ?_ | ((with_reducible refine Go.bool ?_ ?_) <;> intro hc <;> (try simp only [List.length_map, ne_eq, hcs] at hc) <;> try (exfalso; omega)))
    exact ⟨⟨_, _, _, rfl, ⟨_, aRow⟩, ⟨_, aRow⟩, ⟨_, aRow⟩⟩⟩
  · rintro r H n ⟨b1, b2, b3, rfl, ⟨d1, r1⟩, ⟨d2, r2⟩, ⟨d3, r3⟩⟩
    show AV.agg [Abs.frz H 5 (.sl b1 _), Abs.frz H 5 (.sl b2 _), Abs.frz H 5 (.sl b3 _), Abs.frz H 5 (.sc _)] = _
    rw [frz_sl r1 (show ([] : List AV).length = 0 from rfl), frz_sl r2 (show ([] : List AV).length = 0 from rfl), frz_sl r3 (show ([] : List AV).length = 0 from rfl), frz_sc]
    rfl
theorem line_nil : Abs.Pure Try.prog 12 [noX] (fun r => r = .tup [.sc (.slice none 0 0), bl true, i64 (errN x0)]) := by
  have h := (line_pure x0 x0_wf).args (fun c => .cons (x0_le c) .nil)
  rw [show lineL x0 = [] by decide +kernel, show lineB x0 = true by decide +kernel] at h
  exact h
set_option maxHeartbeats 4000000 in
theorem own_err {o : V.Obj} (ho : o.Wf) (l : List V.StepV) (he : gathE o l ≠ 0) : Pure Try.prog 5 [o.av, .im 2 .any (l.map V.StepV.av)] (fun r => r = bl true) := by
  have h5 := gather_err ho l he
  have hsame := (same_pure x0 x0 x0_wf x0_wf).args (bs := [.agg [.im 1 .any [], .im 5 .any [], .im 1 .any [], .sc (.slice none 0 0)], noX]) (fun c => .cons (fun v hv => le_fz c x0 v (AVle.agg (.cons (fun _ hv => hv) (.cons (fun _ hv => hv) (.cons (fun _ hv => hv) (.cons (Abs.AVle.nilIm c c 1 .any) .nil)))) v hv)) (.cons (x0_le c) .nil))
  rw [show decide (x0 = x0) = true from decide_eq_true rfl] at hsame
  have hc := copy_nil
  have hl := line_nil
  generalize errN x0 = E0 at *
  generalize gathE o l = E at *
  refine Go.pure Try.func5 nm5 low5 res5 nt5 rfl ?_
  repeat' (first | ((with_reducible refine Go.red ?_); conv => whnf) | refine aG ?_ | exact aC | with_reducible refine Go.and ?_ ?_ | (apply Go.elem; (· exact aElem)) | ((with_reducible refine Go.callW (begins_pure) ?_ ?_); (· exact aFit)) | ((with_reducible refine Go.callJ (fun _ => begins_pure) ?_ ?_); (· exact aFit)) | ((with_reducible refine Go.callE (begins_pure) ?_ ?_); (· exact aFit)) | ((with_reducible refine Go.callF (fun _ => begins_pure) ?_ ?_); (· exact aFit)) | ((with_reducible refine Go.callW (h5) ?_ ?_); (· exact aFit)) | ((with_reducible refine Go.callJ (fun _ => h5) ?_ ?_); (· exact aFit)) | ((with_reducible refine Go.callE (h5) ?_ ?_); (· exact aFit)) | ((with_reducible refine Go.callF (fun _ => h5) ?_ ?_); (· exact aFit)) | ((with_reducible refine Go.callW (hc) ?_ ?_); (· exact aFit)) | ((with_reducible refine Go.callJ (fun _ => hc) ?_ ?_); (· exact aFit)) | ((with_reducible refine Go.callE (hc) ?_ ?_); (· exact aFit)) | ((with_reducible refine Go.callF (fun _ => hc) ?_ ?_); (· exact aFit)) | ((with_reducible refine Go.callW (hl) ?_ ?_); (· exact aFit)) | ((with_reducible refine Go.callJ (fun _ => hl) ?_ ?_); (· exact aFit)) | ((with_reducible refine Go.callE (hl) ?_ ?_); (· exact aFit)) | ((with_reducible refine Go.callF (fun _ => hl) ?_ ?_); (· exact aFit)) | refine aH ?_ | ((with_reducible refine Go.bool ?_ ?_) <;> intro hc <;> (try simp only [List.length_map, ne_eq, hcs] at hc) <;> try (exfalso; omega)))
  refine Go.loop (fun _ : Unit => [(1, .im 2 .any (l.map V.StepV.av)), (2, .pt 0 1 0 0), (5, .pt 8 1 0 0), (6, i64 E), (7, .pt 12 1 0 0), (8, .sc (.slice none 0 0)), (11, i64 0)]) (fun _ H n => 20 ≤ n ∧ getH H 0 = some (.row 25 5 .any [o.av]) ∧ (∃ d, getH H 8 = some (.row 32 4 d [noX])) ∧ (∃ d, getH H 12 = some (.row 32 4 d [.agg [.im 1 .any [], .im 5 .any [], .im 1 .any [], .sc (.slice none 0 0)]]))) (fun _ => 0) () aLess ⟨aNx, aRow, ⟨_, aRow⟩, ⟨_, aRow⟩⟩ ?_
  rintro _ H n ⟨hn, r0, ⟨d8, r8⟩, ⟨d12, r12⟩⟩
  repeat' (first | ((with_reducible refine Go.red ?_); conv => whnf) | refine aG ?_ | exact aC | with_reducible refine Go.and ?_ ?_ | (apply Go.elem; (· exact aElem)) | ((with_reducible refine Go.callW (h5) ?_ ?_); (· exact aFit)) | ((with_reducible refine Go.callJ (fun _ => h5) ?_ ?_); (· exact aFit)) | ((with_reducible refine Go.callE (h5) ?_ ?_); (· exact aFit)) | ((with_reducible refine Go.callF (fun _ => h5) ?_ ?_); (· exact aFit)) | ((with_reducible refine Go.callW (hsame) ?_ ?_); (· exact aFit)) | ((with_reducible refine Go.callJ (fun _ => hsame) ?_ ?_); (· exact aFit)) | ((with_reducible refine Go.callE (hsame) ?_ ?_); (· exact aFit)) | ((with_reducible refine Go.callF (fun _ => hsame) ?_ ?_); (· exact aFit)) | refine aH ?_ | ((with_reducible refine Go.bool ?_ ?_) <;> intro hc <;> (try simp only [List.length_map, ne_eq, hcs] at hc) <;> try (exfalso; omega)))
  refine Go.loop (fun _ : Unit => [(1, .im 2 .any (l.map V.StepV.av)), (2, .pt 0 1 0 0), (5, .pt 8 1 0 0), (6, i64 E), (7, .pt 12 1 0 0), (12, i64 0)]) (fun _ H n => 20 ≤ n ∧ getH H 0 = some (.row 25 5 .any [o.av]) ∧ (∃ d, getH H 8 = some (.row 32 4 d [noX])) ∧ (∃ d, getH H 12 = some (.row 32 4 d [.agg [.im 1 .any [], .im 5 .any [], .im 1 .any [], .sc (.slice none 0 0)]]))) (fun _ => 0) () aLess ⟨aNx, aRow, ⟨_, aRow⟩, ⟨_, aRow⟩⟩ ?_
  rintro _ H n ⟨hn, r0, ⟨d8, r8⟩, ⟨d12, r12⟩⟩
  repeat' (first | ((with_reducible refine Go.red ?_); conv => whnf) | refine aG ?_ | exact aC | with_reducible refine Go.and ?_ ?_ | (apply Go.elem; (· exact aElem)) | ((with_reducible refine Go.callW (h5) ?_ ?_); (· exact aFit)) | ((with_reducible refine Go.callJ (fun _ => h5) ?_ ?_); (· exact aFit)) | ((with_reducible refine Go.callE (h5) ?_ ?_); (· exact aFit)) | ((with_reducible refine Go.callF (fun _ => h5) ?_ ?_); (· exact aFit)) | ((with_reducible refine Go.callW (hsame) ?_ ?_); (· exact aFit)) | ((with_reducible refine Go.callJ (fun _ => hsame) ?_ ?_); (· exact aFit)) | ((with_reducible refine Go.callE (hsame) ?_ ?_); (· exact aFit)) | ((with_reducible refine Go.callF (fun _ => hsame) ?_ ?_); (· exact aFit)) | refine aH ?_ | ((with_reducible refine Go.bool ?_ ?_) <;> intro hc <;> (try simp only [List.length_map, ne_eq, hcs] at hc) <;> try (exfalso; omega)))
  refine Go.loop (fun _ : Unit => [(1, .im 2 .any (l.map V.StepV.av)), (2, .pt 0 1 0 0), (5, .pt 8 1 0 0), (6, i64 E), (7, .pt 12 1 0 0), (14, i64 0)]) (fun _ H n => 20 ≤ n ∧ getH H 0 = some (.row 25 5 .any [o.av]) ∧ (∃ d, getH H 8 = some (.row 32 4 d [noX])) ∧ (∃ d, getH H 12 = some (.row 32 4 d [.agg [.im 1 .any [], .im 5 .any [], .im 1 .any [], .sc (.slice none 0 0)]]))) (fun _ => 0) () aLess ⟨aNx, aRow, ⟨_, aRow⟩, ⟨_, aRow⟩⟩ ?_
  rintro _ H n ⟨hn, r0, ⟨d8, r8⟩, ⟨d12, r12⟩⟩
  repeat' (first | ((with_reducible refine Go.red ?_); conv => whnf) | refine aG ?_ | exact aC | with_reducible refine Go.and ?_ ?_ | (apply Go.elem; (· exact aElem)) | ((with_reducible refine Go.callW (h5) ?_ ?_); (· exact aFit)) | ((with_reducible refine Go.callJ (fun _ => h5) ?_ ?_); (· exact aFit)) | ((with_reducible refine Go.callE (h5) ?_ ?_); (· exact aFit)) | ((with_reducible refine Go.callF (fun _ => h5) ?_ ?_); (· exact aFit)) | ((with_reducible refine Go.callW (hsame) ?_ ?_); (· exact aFit)) | ((with_reducible refine Go.callJ (fun _ => hsame) ?_ ?_); (· exact aFit)) | ((with_reducible refine Go.callE (hsame) ?_ ?_); (· exact aFit)) | ((with_reducible refine Go.callF (fun _ => hsame) ?_ ?_); (· exact aFit)) | refine aH ?_ | ((with_reducible refine Go.bool ?_ ?_) <;> intro hc <;> (try simp only [List.length_map, ne_eq, hcs] at hc) <;> try (exfalso; omega)))
  refine Go.loop (fun _ : Unit => [(1, .im 2 .any (l.map V.StepV.av)), (2, .pt 0 1 0 0), (5, .pt 8 1 0 0), (6, i64 E), (7, .pt 12 1 0 0), (15, i64 0)]) (fun _ H n => 20 ≤ n ∧ getH H 0 = some (.row 25 5 .any [o.av]) ∧ (∃ d, getH H 8 = some (.row 32 4 d [noX])) ∧ (∃ d, getH H 12 = some (.row 32 4 d [.agg [.im 1 .any [], .im 5 .any [], .im 1 .any [], .sc (.slice none 0 0)]]))) (fun _ => 0) () aLess ⟨aNx, aRow, ⟨_, aRow⟩, ⟨_, aRow⟩⟩ ?_
  rintro _ H n ⟨hn, r0, ⟨d8, r8⟩, ⟨d12, r12⟩⟩
  repeat' (first | ((with_reducible refine Go.red ?_); conv => whnf) | refine aG ?_ | exact aC | with_reducible refine Go.and ?_ ?_ | (apply Go.elem; (· exact aElem)) | ((with_reducible refine Go.callW (h5) ?_ ?_); (· exact aFit)) | ((with_reducible refine Go.callJ (fun _ => h5) ?_ ?_); (· exact aFit)) | ((with_reducible refine Go.callE (h5) ?_ ?_); (· exact aFit)) | ((with_reducible refine Go.callF (fun _ => h5) ?_ ?_); (· exact aFit)) | ((with_reducible refine Go.callW (hsame) ?_ ?_); (· exact aFit)) | ((with_reducible refine Go.callJ (fun _ => hsame) ?_ ?_); (· exact aFit)) | ((with_reducible refine Go.callE (hsame) ?_ ?_); (· exact aFit)) | ((with_reducible refine Go.callF (fun _ => hsame) ?_ ?_); (· exact aFit)) | refine aH ?_ | ((with_reducible refine Go.bool ?_ ?_) <;> intro hc <;> (try simp only [List.length_map, ne_eq, hcs] at hc) <;> try (exfalso; omega)))
  rw [if_pos (decide_eq_true rfl)]
end Go.Proofs.Ytflicfkgbjmffaa
end
section
/- Lists are their asker's own: for every object and every list of steps. No conditions. -/
namespace Go.Proofs.Ytflicfkgbjmffaa
open Go Go.Abs Go.Proofs Go.RowKit Go.ChangeShapes Go.WideShapes Go.ChangeAt V
set_option linter.unusedSimpArgs false
set_option linter.unusedVariables false
theorem own_pure {o : V.Obj} (ho : o.Wf) (l : List V.StepV) : Abs.Pure Try.prog 5 [o.av, .im 2 .any (l.map V.StepV.av)] (fun r => r = bl true) := by
  by_cases he : gathE o l = 0
  · exact own_ok ho l he
  · exact own_err ho l he
set_option maxRecDepth 100000 in
theorem orderOwn_lifted (os : Os) (started : os.Started) (H : Type) (enc : TypeId × Value → H) :
    ReturnsInHanded {} Try.checked os 5 .any (Rows.orderOwnSpec.pre6 enc Try.prog Try.f5 Rows.orderOwnRow.domain false) (Rows.orderOwnSpec.post enc Try.prog Try.f5 false true false false) := by
  refine returnsInHanded_of_change_sized (C := Try.checked) own started (by kernel_rfl) Try.func5
    (ChangeSpec.witness6 (enc := enc) (C := Try.checked) false ⟨#[], #[.agg #[.slice none 0 0, .int .i64 0, .int .i64 0, .int .i64 0, .slice none 0 0], .slice none 0 0], []⟩ 8 (by kernel_rfl) (by kernel_rfl) (by kernel_rfl) (by kernel_rfl)) ?_
  intro W base args ds gs before hval hW _ hr _
  refine law_contract (ts := [25, 26]) (tb := 4) laidOut (by kernel_rfl) rfl Try.underlying4 (by kernel_rfl) (fun ds h => ?_) (fun t ht => ?_)
    (opensAll_cons (ag := true) (by kernel_rfl) opens_obj (fun h => by cases h) (opensAll_cons (ag := false) (by kernel_rfl) opens_steps (fun _ _ _ => rfl) opensAll_nil))
    (fun a h => ?_) hval hW hr
  · match ds, h with
    | [d0, d1], _ => rfl
  · have : ∀ t ∈ [25, 26], Try.prog.readableRec t = true ∧ t < Try.prog.types.size := by
      simp only [List.forall_mem_cons]
      refine ⟨⟨by kernel_rfl, of_decide_eq_true (by kernel_rfl)⟩, ⟨by kernel_rfl, of_decide_eq_true (by kernel_rfl)⟩, by simp⟩
    exact this t ht
  · exact own_pure h.1 a.2.1
theorem orderOwn_holds : Rows.OrderOwnSaid :=
  OpenClaim.holds_of_wide 5 Try.f5 rfl rfl rfl rfl rfl rfl rfl ⟨rfl, rfl, rfl, rfl, rfl⟩ rfl rfl rfl rfl rfl (by kernel_rfl) Try.func5 (by kernel_rfl)
    (of_decide_eq_true (by kernel_rfl)) (by unfold Func.isWrapper; first | (rw [if_pos (by decide +kernel)]; kernel_rfl) | (rw [if_neg (by decide +kernel)]; exact ⟨rfl, rfl⟩))
    (fun os started H enc _ => orderOwn_lifted os started H enc)
end Go.Proofs.Ytflicfkgbjmffaa
end
