import Derived.Test.YtmonponfppdgfaaDoorM27
import Derived.Test.YtmonponfppdgfaaDoorM22
section
/- A thread is asked for: the walk; Live. -/
namespace Go.Proofs.YtmonponfppdgfaaDoor
open Go Go.Abs Go.Proofs
set_option linter.unusedSimpArgs false
set_option linter.unusedVariables false
abbrev nilP : AV := .sc (.pointer none)
theorem asked_bad (u : UnitS) (hu : u.Wf) (hr : ¬ RightU u) (t : Int) : Pure Tryd.prog 24 [u.av, i64 t] (fun r => r = .tup [nilP, i64 60]) := by
  have h := classes_pure u hu
  rw [if_neg (mt rightB_iff.1 hr)] at h
  refine Go.pureL lf24 rfl ?_
  repeat' (first | ((with_reducible refine Go.red ?_); conv => whnf) | refine aG ?_ | exact aCn | with_reducible refine Go.and ?_ ?_ | ((with_reducible refine Ask.mk ?_); first | exact aAsk | exact aAsk2 | (intro h; simp_all [UnitS.cells] <;> fail) | (simp_all [UnitS.cells] <;> fail)) | (apply Go.elem; (· exact aElem)) | refine aK (h) ?_ | refine aH ?_ | ((with_reducible refine Go.bool ?_ ?_) <;> intro hc <;> (try simp only [List.length_map, ne_eq, hcs] at hc) <;> try (exfalso; omega)))
  exact rfl
theorem asked_range (u : UnitS) (hu : u.Wf) (hr : RightU u) (t : Int) (ht : t < 0 ∨ (u.graphs.length : Int) ≤ t) : Pure Tryd.prog 24 [u.av, i64 t] (fun r => r = .tup [nilP, i64 2]) := by
  have h := classes_pure u hu
  rw [if_pos (rightB_iff.2 hr)] at h
  unfold classesAv at h
  have hf : fitL 0 ((classesU u).map ClassV.av) := fit_classes _
  refine Go.pureL lf24 rfl ?_
  repeat' (first | ((with_reducible refine Go.red ?_); conv => whnf) | refine aG ?_ | exact aCn | with_reducible refine Go.and ?_ ?_ | ((with_reducible refine Ask.mk ?_); first | exact aAsk | exact aAsk2 | (intro h; simp_all [UnitS.cells] <;> fail) | (simp_all [UnitS.cells] <;> fail)) | (apply Go.elem; (· exact aElem)) | refine aK (h) ?_ | refine aH ?_ | ((with_reducible refine Go.bool ?_ ?_) <;> intro hc <;> (try simp only [List.length_map, ne_eq, hcs] at hc) <;> try (exfalso; omega)))
  all_goals first | exact rfl | (exfalso; omega)
theorem frz_tup2 {H : Hp} {k : Nat} {a b : AV} : Abs.frz H (k + 1) (.tup [a, b]) = .tup [Abs.frz H k a, Abs.frz H k b] := by simp only [frz, List.map_cons, List.map_nil]
theorem frz_sc {H : Hp} (k : Nat) {v : Value} (h : fitA 0 (.sc v)) : Abs.frz H k (.sc v) = .sc v := frz_fit k h
set_option maxHeartbeats 4000000 in
theorem asked_ok (u : UnitS) (hu : u.Wf) (hr : RightU u) (t : Nat) (ht : t < u.graphs.length) : Pure Tryd.prog 24 [u.av, i64 t] (fun r => r = .tup [lookX (u.gr t) t (classesU u), i64 0]) := by
  have h := classes_pure u hu
  rw [if_pos (rightB_iff.2 hr)] at h
  unfold classesAv at h
  have hgw := hu.graphs _ (getD_mem' default ht)
  have hgo := hr.gr ht
  have hrp := reached_pure (u.gr t) hgw (wholeB_of hgo.whole) (spread_pure (u.gr t) hgw hgo.whole (-1) (by unfold wf64; omega))
  have eg := fun d => gr_at ht d
  refine pure_of_call ?_ (by rw [fitA, fitL, fitL, fitL]; exact ⟨fit_lookX _ _ _, by simp [fitA], trivial⟩)
  refine Go.fnL lf24 rfl ?_
  repeat' (first | ((with_reducible refine Go.red ?_); conv => whnf) | refine aG ?_ | exact aCn | with_reducible refine Go.and ?_ ?_ | ((with_reducible refine Ask.mk ?_); first | exact aAsk | exact aAsk2 | (intro h; simp_all [UnitS.cells, Graph.cells] <;> fail) | (simp_all [UnitS.cells, Graph.cells] <;> fail)) | (apply Go.elem; (· (first | exact eg _ | exact aElem))) | refine aK (h) ?_ | refine aK (hrp) ?_ | refine aH ?_ | ((with_reducible refine Go.bool ?_ ?_) <;> intro hc <;> (try simp only [List.length_map, ne_eq, hcs] at hc) <;> try (exfalso; omega)))
  refine ⟨frz_tup2.trans ?_⟩
  rw [frz_sc 5 (by simp [fitA])]
  refine congrArg (fun z => AV.tup [z, i64 0]) ?_
  refine (frz_at (e := 92) (d := .any) (es := [.agg (lookCells (u.gr t) t (classesU u))]) aRow rfl).trans ?_
  rw [frz_same _ (by rw [fitL, fitA, fitL]; exact ⟨fit_lookCells _ _ _ _, trivial⟩)]
noncomputable def tabAv (u : UnitS) (t : Int) (T : Tab) : AV := if rightB u = true then (if t < 0 ∨ (u.graphs.length : Int) ≤ t then .tup [.im 1 .any [], i64 2] else .tup [.im 1 .any (T.map imB), i64 0]) else .tup [.im 1 .any [], i64 60]
theorem fit_tab (T : Tab) : fitL 0 (T.map imB) := (fitL_map _ _).2 fun _ _ => by simp [imB, fitA, fitL_map]
theorem nil_tab {P : Program} {f : FuncId} {args : List AV} {n : Int} (h : Pure P f args (fun r => r = .tup [.sc (.slice none 0 0), i64 n])) : Pure P f args (fun r => r = .tup [.im 1 .any [], i64 n]) := by
  refine pure_le (u := .tup [.sc (.slice none 0 0), i64 n]) (h.mono fun r hr => .inl hr) (by simp [fitA, fitL]) fun c => ?_
  intro v hv
  rw [VR] at hv ⊢
  obtain ⟨vs, rfl, hv⟩ := hv
  refine ⟨vs, rfl, ?_⟩
  rw [VRs] at hv ⊢
  obtain ⟨v1, vs1, e1, h1, h2⟩ := hv
  exact ⟨v1, vs1, e1, Abs.AVle.nilIm c c 1 .any _ h1, h2⟩
theorem Live_pure (u : UnitS) (hu : u.Wf) (t : Int) : Pure Tryd.prog 11 [u.av, i64 t] (fun r => r = tabAv u t (liveT (u.gr t.toNat))) := by
  unfold tabAv
  by_cases hr : RightU u
  · rw [if_pos (rightB_iff.2 hr)]
    by_cases ht : t < 0 ∨ (u.graphs.length : Int) ≤ t
    · rw [if_pos ht]
      have ha := asked_range u hu hr t ht
      refine nil_tab ?_
      refine Go.pureL lf11 rfl ?_
      repeat' (first | ((with_reducible refine Go.red ?_); conv => whnf) | refine aG ?_ | exact aCn | with_reducible refine Go.and ?_ ?_ | ((with_reducible refine Ask.mk ?_); first | exact aAsk | exact aAsk2 | (intro h; simp_all [UnitS.cells] <;> fail) | (simp_all [UnitS.cells] <;> fail)) | (apply Go.elem; (· exact aElem)) | refine aK (ha) ?_ | refine aH ?_ | ((with_reducible refine Go.bool ?_ ?_) <;> intro hc <;> (try simp only [List.length_map, ne_eq, hcs] at hc) <;> try (exfalso; omega)))
      exact rfl
    · rw [if_neg ht]
      obtain ⟨k, rfl⟩ : ∃ k : Nat, t = k := ⟨t.toNat, by omega⟩
      rw [Int.toNat_natCast]
      have hk : k < u.graphs.length := by omega
      have ha := asked_ok u hu hr k hk
      have hgo := hr.gr hk
      refine pure_of_call ?_ (by rw [fitA, fitL, fitL, fitL, fitA]; exact ⟨fit_tab _, by simp [fitA], trivial⟩)
      refine Go.fnL lf11 rfl ?_
      repeat' (first | ((with_reducible refine Go.red ?_); conv => whnf) | refine aG ?_ | exact aCn | with_reducible refine Go.and ?_ ?_ | ((with_reducible refine Ask.mk ?_); first | exact aAsk | exact aAsk2 | (intro h; simp_all [UnitS.cells] <;> fail) | (simp_all [UnitS.cells] <;> fail)) | (apply Go.elem; (· exact aElem)) | refine aK (ha) ?_ | refine aH ?_ | ((with_reducible refine Go.bool ?_ ?_) <;> intro hc <;> (try simp only [List.length_map, ne_eq, hcs] at hc) <;> try (exfalso; omega)))
      refine Go.callN (live_call u (u.gr k) (hu.graphs _ (getD_mem' default hk)) hgo k (classesU u) _ _) ?_
      rintro _ H2 n2 ⟨b, rfl, hgr⟩
      obtain ⟨ids, h1, h2⟩ := hgr.at_
      repeat' (first | ((with_reducible refine Go.red ?_); conv => whnf) | refine aG ?_ | exact aC | with_reducible refine Go.and ?_ ?_ | (apply Go.elem; (· exact aElem)) | refine aH ?_ | ((with_reducible refine Go.bool ?_ ?_) <;> intro hc <;> (try simp only [List.length_map, ne_eq, hcs] at hc) <;> try (exfalso; omega)))
      refine ⟨frz_tup2.trans ?_⟩
      have hl : (liveT (u.gr k)).length = (u.gr k).nodes.length := (shape_ahdT _ _ _ _).len
      rw [frz_sc 5 (by simp [fitA]), ← hl]
      exact congrArg (fun z => AV.tup [z, i64 0]) (tab_frz (h1.keep fun x hx => aSkip) 3)
  · rw [if_neg (mt rightB_iff.1 hr)]
    have ha := asked_bad u hu hr t
    refine nil_tab ?_
    refine Go.pureL lf11 rfl ?_
    repeat' (first | ((with_reducible refine Go.red ?_); conv => whnf) | refine aG ?_ | exact aCn | with_reducible refine Go.and ?_ ?_ | ((with_reducible refine Ask.mk ?_); first | exact aAsk | exact aAsk2 | (intro h; simp_all [UnitS.cells] <;> fail) | (simp_all [UnitS.cells] <;> fail)) | (apply Go.elem; (· exact aElem)) | refine aK (ha) ?_ | refine aH ?_ | ((with_reducible refine Go.bool ?_ ?_) <;> intro hc <;> (try simp only [List.length_map, ne_eq, hcs] at hc) <;> try (exfalso; omega)))
    exact rfl
end Go.Proofs.YtmonponfppdgfaaDoor
end
section
/- What can be left out: the walk. -/
namespace Go.Proofs.YtmonponfppdgfaaDoor
open Go Go.Abs Go.Proofs
set_option linter.unusedSimpArgs false
set_option linter.unusedVariables false
theorem unGo {p : Prop} (h : Go p) : p := h
theorem TAt.keep {b : Nat} {ids : List Nat} {T : Tab} {H H' : Hp} (h : TAt b ids T H) (hk : ∀ x ∈ b :: ids, getH H' x = getH H x) : TAt b ids T H' := QAt.keep h hk
def suchRow (l : List Bool) (m : Nat) : List Bool := l ++ List.replicate (m - l.length) false
theorem suchRow_set {l : List Bool} {m : Nat} (h : l.length < m) (v : Bool) : ((suchRow l m).map bl).set ((l.length : Nat) : Int).toNat (bl v) = (suchRow (l ++ [v]) m).map bl := by
  rw [Int.toNat_natCast, ← List.map_set, suchRow, List.set_append, if_neg (by omega), Nat.sub_self, show m - l.length = (m - (l ++ [v]).length) + 1 by simp; omega, List.replicate_succ, suchRow]
  simp
theorem suchRow_false {l : List Bool} {m : Nat} (h : l.length < m) : suchRow (l ++ [false]) m = suchRow l m := by
  rw [suchRow, suchRow, show m - l.length = (m - (l ++ [false]).length) + 1 by simp; omega, List.replicate_succ]; simp
theorem suchRow_len {l : List Bool} {m : Nat} (h : l.length ≤ m) : (suchRow l m).length = m := by simp [suchRow]; omega
theorem suchRow_get {l : List Bool} {m : Nat} (h : l.length < m) (d : AV) : ((suchRow l m).map bl).getD ((l.length : Nat) : Int).toNat d = bl false := by
  rw [bl_at (by rw [suchRow_len (by omega)]; exact h), suchRow, List.getD, List.getElem?_append_right (Nat.le_refl _), Nat.sub_self, List.getElem?_replicate, if_pos (by omega)]; rfl
theorem suchTo_next (g : Graph) (cls : List ClassV) (t i : Nat) : suchTo g cls t (i + 1) = suchTo g cls t i ++ [suchB g cls t i] := by
  rw [suchTo, List.range_succ, List.map_append]; rfl
theorem suchTo_len (g : Graph) (cls : List ClassV) (t i : Nat) : (suchTo g cls t i).length = i := by simp [suchTo]
theorem such_set {g : Graph} {cls : List ClassV} {t i m : Nat} (h : i < m) (v : Bool) : ((suchRow (suchTo g cls t i) m).map bl).set ((i : Nat) : Int).toNat (bl v) = (suchRow (suchTo g cls t i ++ [v]) m).map bl := by
  have := suchRow_set (l := suchTo g cls t i) (m := m) (by rw [suchTo_len]; exact h) v
  rw [suchTo_len] at this; exact this
theorem such_get {g : Graph} {cls : List ClassV} {t i m : Nat} (h : i < m) (d : AV) : ((suchRow (suchTo g cls t i) m).map bl).getD ((i : Nat) : Int).toNat d = bl false := by
  have := suchRow_get (l := suchTo g cls t i) (m := m) (by rw [suchTo_len]; exact h) d
  rw [suchTo_len] at this; exact this
theorem frz_args {b : Nat} {ids : List Nat} {T : Tab} {H H9 : Hp} {m k : Nat} (h : TAt b ids T H) (hm : T.length = m) (h9 : ∀ x ∈ b :: ids, getH H9 x = getH H x) (nd : Node) : [AV.sl b m, nd.av, i64 k].map (Abs.frz H9 6) = [.im 1 .any (T.map imB), nd.av, i64 k] := by
  rw [List.map_cons, List.map_cons, List.map_cons, List.map_nil, ← hm, tab_frz (h.keep h9), frz_fit 6 (by simp [fitA]), frz_fit 6 (by simp [fitA])]
theorem fit_args (T : Tab) (nd : Node) (k : Nat) : fitL 0 [.im 1 .any (T.map imB), nd.av, i64 k] := by
  have : fitL 0 (T.map imB) := fit_tab T
  simp only [fitL, fitA]
  exact ⟨this, fit_node _ _, trivial, trivial⟩
set_option maxHeartbeats 8000000 in
theorem such_call (u : UnitS) (g : Graph) (hg : g.Wf) (hk : GraphOk u g) (t : Nat) (cls : List ClassV) (hcl : cls.length = u.shared.length) (hcl64 : cls.length ≤ 64) (H : Hp) (nx : Nat) (hr : ∀ (b : Nat) (H' : Hp) (n' : Nat) (d : AV), getH H' b = some (.row 4 1 d ((suchL g cls t).map bl)) → b < n' → CallN Tryd.prog 64 [lookX g t cls, .sl b g.nodes.length] H' n' (fun r H2 n2 => ∃ b2 d2, r = .sl b2 g.nodes.length ∧ n' ≤ b2 ∧ b2 < n2 ∧ getH H2 b2 = some (.row 4 1 d2 ((idleL g cls t).map bl)) ∧ ∀ y, y < n' → getH H2 y = getH H' y)) :
    CallN Tryd.prog 39 [lookX g t cls] H nx (fun r H2 n2 => ∃ b2 d2, r = .sl b2 g.nodes.length ∧ nx ≤ b2 ∧ b2 < n2 ∧ getH H2 b2 = some (.row 4 1 d2 ((idleL g cls t).map bl)) ∧ ∀ y, y < nx → getH H2 y = getH H y) := by
  have hl := hg.len
  have hw := hk.whole
  have hl0 := hw.1
  have hl1 := hw.2.1
  refine Go.fnL lf39 rfl ?_
  repeat' (first | ((with_reducible refine Go.red ?_); conv => whnf) | refine aG ?_ | exact aCn | with_reducible refine Go.and ?_ ?_ | ((with_reducible refine Ask.mk ?_); first | exact aAsk | exact aAsk2 | (intro h; simp_all [lookCells] <;> fail) | (simp_all [lookCells] <;> fail)) | (apply Go.elem; (· exact aElem)) | refine aH ?_ | ((with_reducible refine Go.bool ?_ ?_) <;> intro hc <;> (try simp only [List.length_map, ne_eq, hcs] at hc) <;> try (exfalso; omega)))
  refine Go.callN (live_call u g hg hk t cls _ _) ?_
  rintro _ H1 n1 ⟨b1, rfl, hgr1⟩
  repeat' (first | ((with_reducible refine Go.red ?_); conv => whnf) | refine aG ?_ | exact aC | with_reducible refine Go.and ?_ ?_ | (apply Go.elem; (· exact aElem)) | refine aH ?_ | ((with_reducible refine Go.bool ?_ ?_) <;> intro hc <;> (try simp only [List.length_map, ne_eq, hcs] at hc) <;> try (exfalso; omega)))
  refine Go.callN (waits_call u g hg hk t cls hcl64 _ _) ?_
  rintro _ H2 n2 ⟨b2, rfl, hgr2⟩
  obtain ⟨ids1, hT1, hid1⟩ := hgr1.at_
  obtain ⟨ids2, hT2, hid2⟩ := hgr2.at_
  have hle1 := hgr1.le
  have hle2 := hgr2.le
  have hT1' : TAt b1 ids1 (liveT g) H2 := hT1.keep fun x hx => (hgr2.keep x (Nat.lt_of_lt_of_le (hid1 x hx).2 aNx)).trans aSkip
  have hk2 : ∀ y, y < nx → getH H2 y = getH H y := fun y hy => (hgr2.keep y (Nat.lt_of_lt_of_le (Nat.lt_of_lt_of_le (Nat.lt_of_lt_of_le hy aNx) hle1) aNx)).trans (Eq.trans aSkip ((hgr1.keep y (Nat.lt_of_lt_of_le hy aNx)).trans aSkip))
  have hi1 : ∀ x ∈ b1 :: ids1, nx ≤ x ∧ x < n2 := fun x hx => ⟨Nat.le_trans aNx (hid1 x hx).1, Nat.lt_of_lt_of_le (Nat.lt_of_lt_of_le (hid1 x hx).2 aNx) hle2⟩
  have hi2 : ∀ x ∈ b2 :: ids2, nx ≤ x ∧ x < n2 := fun x hx => ⟨Nat.le_trans (Nat.le_trans (Nat.le_trans aNx hle1) aNx) (hid2 x hx).1, (hid2 x hx).2⟩
  have hnn : nx ≤ n2 := Nat.le_trans (Nat.le_trans (Nat.le_trans aNx hle1) aNx) hle2
  clear hgr1 hgr2 hT1 hid1 hid2
  repeat' (first | ((with_reducible refine Go.red ?_); conv => whnf) | refine aG ?_ | exact aCn | with_reducible refine Go.and ?_ ?_ | ((with_reducible refine Ask.mk ?_); first | exact aAsk | exact aAsk2 | (intro h; simp_all [lookCells] <;> fail) | (simp_all [lookCells] <;> fail)) | (apply Go.elem; (· exact aElem)) | refine aH ?_ | ((with_reducible refine Go.bool ?_ ?_) <;> intro hc <;> (try simp only [List.length_map, ne_eq, hcs] at hc) <;> try (exfalso; omega)))
  simp only [List.length_map, Int.toNat_natCast]
  have hsh1 : Shape (liveT g) g.nodes.length g.slots.toNat := shape_ahdT _ _ _ _
  have hsh2 : Shape (waitT g cls t) g.nodes.length cls.length := shape_ahdT _ _ _ _
  have hslots := hk.slots
  have hlocals := hk.locals
  have hrw0 : suchRow (suchTo g cls t 0) g.nodes.length = List.replicate g.nodes.length false := by simp [suchRow, suchTo]
  refine Go.loop (fun i : Nat => [(0, lookX g t cls), (3, .sl b1 g.nodes.length), (4, .sl b2 g.nodes.length), (5, .sl (n2 + 8) g.nodes.length), (23, nodesAv g.nodes), (24, i64 g.nodes.length), (25, i64 i)])
    (fun i H' n' => i ≤ g.nodes.length ∧ n2 + 17 ≤ n' ∧ TAt b1 ids1 (liveT g) H' ∧ TAt b2 ids2 (waitT g cls t) H' ∧ (∃ d, getH H' (n2 + 8) = some (.row 4 1 d ((suchRow (suchTo g cls t i) g.nodes.length).map bl))) ∧ ∀ y, y < nx → getH H' y = getH H y) (fun i => g.nodes.length - i) 0 aLess ⟨Nat.zero_le _, aNx, hT1'.keep fun x hx => ?_, hT2.keep fun x hx => ?_, ?_, fun y hy => Eq.trans aSkip (hk2 y hy)⟩ ?_
  · have := hi1 x hx; exact aSkip
  · have := hi2 x hx; exact aSkip
  · apply Exists.intro
    rw [hrw0, List.map_replicate]
    exact aRow
  clear hT1' hT2 hk2
  rintro i H3 n3 ⟨hi, hn3, hT1, hT2, ⟨d8, r8⟩, hk3⟩
  by_cases hil : i < g.nodes.length
  · have en := fun d => nd_at hil d
    have er := fun d => bools_at (l := reachL g (-1)) (k := i) d (by rw [reachL_len]; exact hil)
    have hrl : ((reachL g (-1)).map bl).length = g.nodes.length := by rw [List.length_map, reachL_len]
    have hol : ((suchRow (suchTo g cls t i) g.nodes.length).map bl).length = g.nodes.length := by rw [List.length_map, suchRow_len (by rw [suchTo_len]; exact hi)]
    have eo := fun d => such_get (g := g) (cls := cls) (t := t) hil d
    have hno := hk.node hil
    have hfol := (hw.2.2 i hil).2.2
    have hK1 : ∀ {H' : Hp}, (∀ x, x < n2 → getH H' x = getH H3 x) → TAt b1 ids1 (liveT g) H' := fun h => hT1.keep fun x hx => h x (hi1 x hx).2
    have hK2 : ∀ {H' : Hp}, (∀ x, x < n2 → getH H' x = getH H3 x) → TAt b2 ids2 (waitT g cls t) H' := fun h => hT2.keep fun x hx => h x (hi2 x hx).2
    have hnxt := suchTo_next g cls t i
    cases hrc : fnd (reachL g (-1)) (i : Int) with
    | false =>
      rw [hrc] at er
      have hsb : suchB g cls t i = false := by unfold suchB; rw [hrc]; rfl
      repeat' (first | ((with_reducible refine Go.red ?_); conv => whnf) | refine aG ?_ | exact aCn | with_reducible refine Go.and ?_ ?_ | ((with_reducible refine Ask.mk ?_); first | exact aAsk | (exact hrl) | exact aAsk2 | (intro h; simp_all [Node.cells, lookCells] <;> fail) | (simp_all [Node.cells, lookCells] <;> fail)) | (apply Go.elem; (· (first | exact en _ | exact er _ | exact aElem))) | refine aH ?_ | ((with_reducible refine Go.bool ?_ ?_) <;> intro hc <;> (try simp only [List.length_map, ne_eq, hcs] at hc) <;> try (exfalso; omega)))
      exact ⟨i + 1, by omega, aLess, by omega, by omega, hK1 fun x hx => aSkip, hK2 fun x hx => aSkip, ⟨d8, by rw [hnxt, hsb, suchRow_false (by rw [suchTo_len]; exact hil)]; exact aRow⟩, fun y hy => Eq.trans aSkip (hk3 y hy)⟩
    | true =>
      rw [hrc] at er
      by_cases h1 : (g.nd i).kind = 1
      · have hsl := hno.slot.1 (by unfold usesSlot; exact decide_eq_true (by omega))
        obtain ⟨ks, hks⟩ : ∃ ks : Nat, (g.nd i).slot = ks := ⟨(g.nd i).slot.toNat, by omega⟩
        have hsb : suchB g cls t i = (!behB (liveT g) (g.nd i) ks || (decide ((g.nd i).op = 0) && (g.nd i).a.isSlot && decide ((g.nd i).a.slot = ks))) := by
          unfold suchB
          simp only [hrc, h1, hks, if_true, Bool.true_and, Int.toNat_natCast]
        repeat' (first | ((with_reducible refine Go.red ?_); conv => whnf) | refine aG ?_ | exact aCn | with_reducible refine Go.and ?_ ?_ | ((with_reducible refine Ask.mk ?_); first | exact aAsk | (exact hrl) | (exact hol) | (intro h1 h2; rw [h1, h2]; rfl) | exact aAsk2 | (intro h; simp_all [Node.cells, lookCells] <;> fail) | (simp_all [Node.cells, lookCells] <;> fail)) | (apply Go.elem; (· (first | exact en _ | exact er _ | exact eo _ | exact aElem))) | ((refine Go.lookW (behind_look (hK1 fun x hx => aSkip) hsh1 (g.nd i) hfol ks (by omega) _) ?_ ?_); (· exact True.intro)) | ((refine Go.lookJ (fun _ => behind_look (hK1 fun x hx => aSkip) hsh1 (g.nd i) hfol ks (by omega) _) ?_ ?_); (· exact True.intro)) | (simp only [h1]) | (simp only [hks]) | refine aH ?_ | ((with_reducible refine Go.bool ?_ ?_) <;> intro hc <;> (try simp only [List.length_map, ne_eq, hcs] at hc) <;> try (exfalso; omega)))
        refine ⟨i + 1, by omega, aLess, by omega, aNx, hK1 fun x hx => ?_, hK2 fun x hx => ?_, ?_, fun y hy => Eq.trans aSkip (hk3 y hy)⟩
        · exact aSkip
        · exact aSkip
        · apply Exists.intro
          refine Eq.trans aRow ?_
          rw [such_set hil, hnxt, hsb]
          refine congrArg (fun v => some (Blk.row _ 1 _ ((suchRow (suchTo g cls t i ++ [v]) g.nodes.length).map bl))) ?_
          cases behB (liveT g) (g.nd i) ks <;> cases (g.nd i).a.isSlot <;> by_cases h5 : (g.nd i).op = 0 <;> simp [h5]
      · by_cases h2 : (g.nd i).kind = 2
        · have hsl := hno.slot.1 (by unfold usesSlot; exact decide_eq_true (by omega))
          have hth := hno.thing.1 (by unfold usesThing; exact decide_eq_true (by omega))
          rw [if_neg (by omega)] at hth
          obtain ⟨ks, hks⟩ : ∃ ks : Nat, (g.nd i).slot = ks := ⟨(g.nd i).slot.toNat, by omega⟩
          obtain ⟨kt, hkt⟩ : ∃ kt : Nat, (g.nd i).thing = kt := ⟨(g.nd i).thing.toNat, by omega⟩
          have ec : ∀ d, (cls.map ClassV.av).getD ((kt : Int)).toNat d = (cls.getD kt default).av := fun d => by rw [Int.toNat_natCast]; exact getD_av ClassV.av cls kt d (by omega)
          have ec2 : ∀ d, (cls.map ClassV.av).getD ((g.nodes.getD i default).thing).toNat d = (cls.getD kt default).av := fun d => by rw [show (g.nodes.getD i default).thing = kt from hkt]; exact ec d
          have hcml : (cls.map ClassV.av).length = cls.length := by simp
          have hsb : suchB g cls t i = (decide ((cls.getD kt default).kind ≠ 3) && !behB (liveT g) (g.nd i) ks) := by
            unfold suchB
            dsimp only
            rw [hrc, Bool.true_and, if_neg h1, if_pos h2, hks, hkt, Int.toNat_natCast, Int.toNat_natCast]
          repeat' (first | ((with_reducible refine Go.red ?_); conv => whnf) | refine aG ?_ | exact aCn | with_reducible refine Go.and ?_ ?_ | ((with_reducible refine Ask.mk ?_); first | exact aAsk | (exact hrl) | (exact hol) | (intro h1 h2; rw [h1, h2]; rfl) | (rw [hcml]; omega) | exact aAsk2 | (intro h; simp_all [Node.cells, lookCells, ClassV.cells] <;> fail) | (simp_all [Node.cells, lookCells, ClassV.cells] <;> fail)) | (apply Go.elem; (· (first | exact en _ | exact er _ | exact eo _ | exact ec _ | exact ec2 _ | exact aElem))) | (simp only [h2]) | (simp only [hks]) | (simp only [hkt]) | refine aH ?_ | ((with_reducible refine Go.bool ?_ ?_) <;> intro hc <;> (try simp only [List.length_map, ne_eq, hcs] at hc) <;> try (exfalso; omega)))
          refine Go.viewF (b1 :: ids1) (fun _ => behind_pure hsh1 (g.nd i) hfol ks (by omega)) (fun H9 h9 => ?_) (fit_args _ _ _) trivial ?_
          · exact frz_args hT1 hsh1.len (fun x hx => (h9 x hx).trans (by have := hi1 x hx; exact aSkip)) (g.nd i)
          refine Eq.mpr (nsW_eq (b1 :: ids1) _) (unGo ?_)
          have hn8 : n2 + 8 ∉ b1 :: ids1 := fun h => by have := hi1 _ h; omega
          repeat' (first | ((with_reducible refine Go.red ?_); conv => whnf) | refine aG ?_ | exact aCn | with_reducible refine Go.and ?_ ?_ | ((with_reducible refine Ask.mk ?_); first | exact aAsk | (exact hol) | exact aAsk2 | (intro h; simp_all [Node.cells, lookCells, ClassV.cells] <;> fail) | (simp_all [Node.cells, lookCells, ClassV.cells] <;> fail)) | (apply Go.elem; (· (first | exact eo _ | exact aElem))) | refine aH ?_ | ((with_reducible refine Go.bool ?_ ?_) <;> intro hc <;> (try simp only [List.length_map, ne_eq, hcs] at hc) <;> try (exfalso; omega)))
          refine ⟨i + 1, by omega, aLess, by omega, aNx, hK1 fun x hx => ?_, hK2 fun x hx => ?_, ?_, fun y hy => Eq.trans aSkip (hk3 y hy)⟩
          · exact aSkip
          · exact aSkip
          · apply Exists.intro
            refine Eq.trans aRow ?_
            rw [such_set hil, hnxt, hsb]
            refine congrArg (fun v => some (Blk.row _ 1 _ ((suchRow (suchTo g cls t i ++ [v]) g.nodes.length).map bl))) ?_
            cases behB (liveT g) (g.nd i) ks <;> by_cases h5 : (cls.getD kt default).kind = 3 <;> simp [h5]
        · by_cases h3 : (g.nd i).kind = 3
          · have hth := hno.thing.1 (by unfold usesThing; exact decide_eq_true (by omega))
            rw [if_neg (by omega)] at hth
            obtain ⟨kt, hkt⟩ : ∃ kt : Nat, (g.nd i).thing = kt := ⟨(g.nd i).thing.toNat, by omega⟩
            have hkc : kt < cls.length := by omega
            have how := own_pure g t cls kt hkc
            have hsb : suchB g cls t i = (ownB cls t kt && !behB (waitT g cls t) (g.nd i) kt) := by
              unfold suchB
              dsimp only
              rw [hrc, Bool.true_and, if_neg h1, if_neg h2, if_pos h3, hkt, Int.toNat_natCast]
            repeat' (first | ((with_reducible refine Go.red ?_); conv => whnf) | refine aG ?_ | exact aCn | with_reducible refine Go.and ?_ ?_ | ((with_reducible refine Ask.mk ?_); first | exact aAsk | (exact hrl) | (exact hol) | (intro h1 h2; rw [h1, h2]; rfl) | exact aAsk2 | (intro h; simp_all [Node.cells, lookCells] <;> fail) | (simp_all [Node.cells, lookCells] <;> fail)) | (apply Go.elem; (· (first | exact en _ | exact er _ | exact eo _ | exact aElem))) | refine aK (how) ?_ | ((refine Go.lookW (behind_look (hK2 fun x hx => aSkip) hsh2 (g.nd i) hfol kt hkc _) ?_ ?_); (· exact True.intro)) | ((refine Go.lookJ (fun _ => behind_look (hK2 fun x hx => aSkip) hsh2 (g.nd i) hfol kt hkc _) ?_ ?_); (· exact True.intro)) | (simp only [h3]) | (simp only [hkt]) | refine aH ?_ | ((with_reducible refine Go.bool ?_ ?_) <;> intro hc <;> (try simp only [List.length_map, ne_eq, hcs] at hc) <;> try (exfalso; omega)))
            refine ⟨i + 1, by omega, aLess, by omega, aNx, hK1 fun x hx => ?_, hK2 fun x hx => ?_, ?_, fun y hy => Eq.trans aSkip (hk3 y hy)⟩
            · exact aSkip
            · exact aSkip
            · apply Exists.intro
              refine Eq.trans aRow ?_
              rw [such_set hil, hnxt, hsb]
              refine congrArg (fun v => some (Blk.row _ 1 _ ((suchRow (suchTo g cls t i ++ [v]) g.nodes.length).map bl))) ?_
              cases behB (waitT g cls t) (g.nd i) kt <;> cases ownB cls t kt <;> simp
          · by_cases h8 : (g.nd i).kind = 8
            · have hsb : suchB g cls t i = decide ((g.nd i).next = (g.nd i).els) := by
                unfold suchB
                dsimp only
                rw [hrc, Bool.true_and, if_neg h1, if_neg h2, if_neg h3, if_pos h8]
              repeat' (first | ((with_reducible refine Go.red ?_); conv => whnf) | refine aG ?_ | exact aCn | with_reducible refine Go.and ?_ ?_ | ((with_reducible refine Ask.mk ?_); first | exact aAsk | (exact hrl) | (exact hol) | exact aAsk2 | (intro h; simp_all [Node.cells, lookCells] <;> fail) | (simp_all [Node.cells, lookCells] <;> fail)) | (apply Go.elem; (· (first | exact en _ | exact er _ | exact eo _ | exact aElem))) | (simp only [h8]) | refine aH ?_ | ((with_reducible refine Go.bool ?_ ?_) <;> intro hc <;> (try simp only [List.length_map, ne_eq, hcs] at hc) <;> try (exfalso; omega)))
              refine ⟨i + 1, by omega, aLess, by omega, aNx, hK1 fun x hx => ?_, hK2 fun x hx => ?_, ?_, fun y hy => Eq.trans aSkip (hk3 y hy)⟩
              · exact aSkip
              · exact aSkip
              · apply Exists.intro
                refine Eq.trans aRow ?_
                rw [such_set hil, hnxt, hsb]
            · have hsb : suchB g cls t i = false := by
                unfold suchB
                dsimp only
                rw [hrc, Bool.true_and, if_neg h1, if_neg h2, if_neg h3, if_neg h8]
              repeat' (first | ((with_reducible refine Go.red ?_); conv => whnf) | refine aG ?_ | exact aCn | with_reducible refine Go.and ?_ ?_ | ((with_reducible refine Ask.mk ?_); first | exact aAsk | (exact hrl) | exact aAsk2 | (intro h; simp_all [Node.cells, lookCells] <;> fail) | (simp_all [Node.cells, lookCells] <;> fail)) | (apply Go.elem; (· (first | exact en _ | exact er _ | exact aElem))) | (simp only [h1]) | (simp only [h2]) | (simp only [h3]) | (simp only [h8]) | refine aH ?_ | ((with_reducible refine Go.bool ?_ ?_) <;> intro hc <;> (try simp only [List.length_map, ne_eq, hcs] at hc) <;> try (exfalso; omega)))
              exact ⟨i + 1, by omega, aLess, by omega, aNx, hK1 fun x hx => aSkip, hK2 fun x hx => aSkip, ⟨d8, by rw [hnxt, hsb, suchRow_false (by rw [suchTo_len]; exact hil)]; exact aRow⟩, fun y hy => Eq.trans aSkip (hk3 y hy)⟩
  · have : i = g.nodes.length := by omega
    subst this
    have efull : suchRow (suchTo g cls t g.nodes.length) g.nodes.length = suchL g cls t := by
      rw [suchRow, suchTo_len, Nat.sub_self, List.replicate_zero, List.append_nil]; rfl
    rw [efull] at r8
    repeat' (first | ((with_reducible refine Go.red ?_); conv => whnf) | refine aG ?_ | exact aC | with_reducible refine Go.and ?_ ?_ | (apply Go.elem; (· exact aElem)) | refine aH ?_ | ((with_reducible refine Go.bool ?_ ?_) <;> intro hc <;> (try simp only [List.length_map, ne_eq, hcs] at hc) <;> try (exfalso; omega)))
    refine Go.callN (hr (n2 + 8) _ _ d8 aRow aNx) ?_
    rintro _ H4 n4 ⟨b3, d3, rfl, hb3, hbn, r3, hk4⟩
    repeat' (first | ((with_reducible refine Go.red ?_); conv => whnf) | refine aG ?_ | exact aC | with_reducible refine Go.and ?_ ?_ | (apply Go.elem; (· exact aElem)) | refine aH ?_ | ((with_reducible refine Go.bool ?_ ?_) <;> intro hc <;> (try simp only [List.length_map, ne_eq, hcs] at hc) <;> try (exfalso; omega)))
    exact ⟨⟨b3, d3, rfl, Nat.le_trans aNx hb3, Nat.lt_of_lt_of_le hbn aNx, aRow, fun y hy => Eq.trans aSkip ((hk4 y (Nat.lt_of_lt_of_le hy aNx)).trans (Eq.trans aSkip (hk3 y hy)))⟩⟩
end Go.Proofs.YtmonponfppdgfaaDoor
end
section
/- Nodes that come back to themselves: the walk. -/
namespace Go.Proofs.YtmonponfppdgfaaDoor
open Go Go.Abs Go.Proofs
set_option linter.unusedSimpArgs false
set_option linter.unusedVariables false
theorem cloneB_call (l : List Bool) (hl : 0 < l.length) (hl2 : l.length ≤ 4096) (b : Nat) (H : Hp) (nx : Nat) (e : TypeId) (d : AV) (hb : getH H b = some (.row e 1 d (l.map bl))) (hbn : b < nx) :
    CallN Tryd.prog 79 [.sl b l.length] H nx (fun r H2 n2 => ∃ d2, r = .sl (nx + 3) l.length ∧ nx + 3 < n2 ∧ getH H2 (nx + 3) = some (.row 4 1 d2 (l.map bl)) ∧ ∀ y, y < nx → getH H2 y = getH H y) := by
  refine Go.fnL lf79 rfl ?_
  have hml : (l.map bl).length = l.length := by simp
  repeat' (first | ((with_reducible refine Go.red ?_); conv => whnf) | refine aG ?_ | exact aCn | with_reducible refine Go.and ?_ ?_ | ((with_reducible refine Ask.mk ?_); first | exact aAsk | (exact hml) | exact aAsk2) | (apply Go.elem; (· exact aElem)) | refine aH ?_ | ((with_reducible refine Go.bool ?_ ?_) <;> intro hc <;> (try simp only [List.length_map, ne_eq, hcs] at hc) <;> try (exfalso; omega)))
  exact ⟨⟨_, by simp, aNx, aRow, aKeep⟩⟩
open Classical in
noncomputable def ringTo (l : List Bool) (g : Graph) (i : Nat) : List Bool := (List.range l.length).map fun j => if j < i then tf l j && !decide (Ret l g j) else tf l j
theorem ringTo_len (l : List Bool) (g : Graph) (i : Nat) : (ringTo l g i).length = l.length := by simp [ringTo]
theorem ringTo_zero (l : List Bool) (g : Graph) : ringTo l g 0 = l := by
  apply List.ext_getElem
  · simp [ringTo]
  · intro j h1 h2; simp [ringTo, tf, List.getD, h2]
theorem ringTo_end (l : List Bool) (g : Graph) : ringTo l g l.length = idleOf l g := by
  apply List.ext_getElem
  · simp [ringTo, idleOf]
  · intro j h1 h2
    have : j < l.length := by rw [ringTo_len] at h1; exact h1
    simp [ringTo, idleOf, this]
open Classical in
theorem ringTo_keep {l : List Bool} {g : Graph} {i : Nat} (h : tf l i = true → ¬ Ret l g i) : ringTo l g (i + 1) = ringTo l g i := by
  apply List.ext_getElem
  · simp [ringTo]
  · intro j h1 h2
    simp only [ringTo, List.getElem_map, List.getElem_range]
    by_cases hj : j = i
    · subst hj
      rw [if_pos (by omega), if_neg (by omega)]
      cases ht : tf l j with
      | false => rfl
      | true => rw [decide_eq_false (h ht)]; rfl
    · by_cases h3 : j < i
      · rw [if_pos (by omega), if_pos h3]
      · rw [if_neg (by omega), if_neg h3]
open Classical in
theorem ringTo_ret {l : List Bool} {g : Graph} {i : Nat} (hi : i < l.length) (h : Ret l g i) : ringTo l g (i + 1) = (ringTo l g i).set i false := by
  apply List.ext_getElem
  · simp [ringTo]
  · intro j h1 h2
    rw [List.getElem_set]
    simp only [ringTo, List.getElem_map, List.getElem_range]
    by_cases hj : i = j
    · subst hj
      rw [if_pos (by omega), if_pos rfl, decide_eq_true h]; simp
    · rw [if_neg hj]
      by_cases h3 : j < i
      · rw [if_pos (by omega), if_pos h3]
      · rw [if_neg (by omega), if_neg h3]
structure RingAt (l : List Bool) (g : Graph) (i k : Nat) : Prop where
  such : ∀ q, q ≤ k → tf l (iter g i q) = true
  not : ∀ q, 1 ≤ q → q ≤ k → iter g i q ≠ i
theorem ring_none {l : List Bool} {g : Graph} {i k : Nat} (h : RingAt l g i k) (hend : l.length ≤ k ∨ tf l (iter g i (k + 1)) = false) : ¬ Ret l g i := by
  intro hr
  obtain ⟨p, h1, h2, h3, h4⟩ := ret_short hr
  rcases hend with he | he
  · exact h.not p h1 (by omega) h3
  · by_cases hp : p ≤ k
    · exact h.not p h1 hp h3
    · by_cases hp2 : p = k + 1
      · subst hp2
        rw [h3] at he
        have := h.such 0 (Nat.zero_le _)
        rw [show iter g i 0 = i from rfl, he] at this; cases this
      · rw [h4 (k + 1) (by omega)] at he; cases he
set_option maxHeartbeats 8000000 in
theorem rings_call (g : Graph) (hg : g.Wf) (hw : Whole g) (t : Nat) (cls : List ClassV) (l : List Bool) (hlm : l.length = g.nodes.length) (hnx : ∀ j, tf l j = true → 0 ≤ (g.nd j).next ∧ (g.nd j).next < g.nodes.length) (b : Nat) (H : Hp) (nx : Nat) (d : AV) (hb : getH H b = some (.row 4 1 d (l.map bl))) (hbn : b < nx) :
    CallN Tryd.prog 64 [lookX g t cls, .sl b g.nodes.length] H nx (fun r H2 n2 => ∃ b2 d2, r = .sl b2 g.nodes.length ∧ nx ≤ b2 ∧ b2 < n2 ∧ getH H2 b2 = some (.row 4 1 d2 ((idleOf l g).map bl)) ∧ ∀ y, y < nx → getH H2 y = getH H y) := by
  have hl := hg.len
  have hl0 := hw.1
  have hl1 := hw.2.1
  rw [← hlm] at hl hl0 hl1 hnx ⊢
  refine Go.fnL lf64 rfl ?_
  have hml : (l.map bl).length = l.length := by simp
  repeat' (first | ((with_reducible refine Go.red ?_); conv => whnf) | refine aG ?_ | exact aC | with_reducible refine Go.and ?_ ?_ | (apply Go.elem; (· exact aElem)) | refine aH ?_ | ((with_reducible refine Go.bool ?_ ?_) <;> intro hc <;> (try simp only [List.length_map, ne_eq, hcs] at hc) <;> try (exfalso; omega)))
  refine Go.callN (cloneB_call l (by omega) hl1 b _ _ 4 d aRow aNx) ?_
  rintro _ H1 n1 ⟨d1, rfl, hn1, r5, hk1⟩
  have hb1 : getH H1 b = some (.row 4 1 d (l.map bl)) := (hk1 b aNx).trans aRow
  have hk2 : ∀ y, y < nx → getH H1 y = getH H y := fun y hy => (hk1 y (Nat.lt_of_lt_of_le hy aNx)).trans aSkip
  clear hk1
  repeat' (first | ((with_reducible refine Go.red ?_); conv => whnf) | refine aG ?_ | exact aCn | with_reducible refine Go.and ?_ ?_ | ((with_reducible refine Ask.mk ?_); first | exact aAsk | (exact hml) | exact aAsk2) | (apply Go.elem; (· exact aElem)) | refine aH ?_ | ((with_reducible refine Go.bool ?_ ?_) <;> intro hc <;> (try simp only [List.length_map, ne_eq, hcs] at hc) <;> try (exfalso; omega)))
  have hz : ringTo l g 0 = l := ringTo_zero l g
  refine Go.loop (fun i : Nat => [(0, lookX g t cls), (1, .sl b l.length), (5, .sl (nx + 5) l.length), (12, i64 l.length), (13, i64 i)])
    (fun i H' n' => i ≤ l.length ∧ n1 ≤ n' ∧ (∃ d, getH H' b = some (.row 4 1 d (l.map bl))) ∧ (∃ d, getH H' (nx + 5) = some (.row 4 1 d ((ringTo l g i).map bl))) ∧ ∀ y, y < nx → getH H' y = getH H y) (fun i => l.length - i) 0 aLess ⟨Nat.zero_le _, aNx, ⟨_, aRow⟩, ⟨_, by rw [hz]; exact aRow⟩, fun y hy => Eq.trans aSkip (hk2 y hy)⟩ ?_
  clear r5 hb1 hk2 hb
  rintro i H2 n2 ⟨hi, hn2, ⟨db, rb⟩, ⟨d5, r5⟩, hk2⟩
  by_cases hil : i < l.length
  · have el := fun d => bl_at (l := l) (k := i) hil d
    have hrl : ((ringTo l g i).map bl).length = l.length := by rw [List.length_map, ringTo_len]
    cases hti : tf l i with
    | false =>
      have hkp := ringTo_keep (l := l) (g := g) (i := i) (fun h => by rw [hti] at h; cases h)
      rw [show l.getD i false = false from hti] at el
      repeat' (first | ((with_reducible refine Go.red ?_); conv => whnf) | refine aG ?_ | exact aCn | with_reducible refine Go.and ?_ ?_ | ((with_reducible refine Ask.mk ?_); first | exact aAsk | (exact hml) | exact aAsk2) | (apply Go.elem; (· (first | exact el _ | exact aElem))) | refine aH ?_ | ((with_reducible refine Go.bool ?_ ?_) <;> intro hc <;> (try simp only [List.length_map, ne_eq, hcs] at hc) <;> try (exfalso; omega)))
      exact ⟨i + 1, by omega, aLess, by omega, by omega, ⟨_, aRow⟩, ⟨_, by rw [hkp]; exact aRow⟩, fun y hy => Eq.trans aSkip (hk2 y hy)⟩
    | true =>
      rw [show l.getD i false = true from hti] at el
      have en := fun d => nd_at (l := g.nodes) (i := i) (by rw [← hlm]; exact hil) d
      have hnl : (g.nodes.map Node.av).length = l.length := by rw [List.length_map, hlm]
      repeat' (first | ((with_reducible refine Go.red ?_); conv => whnf) | refine aG ?_ | exact aCn | with_reducible refine Go.and ?_ ?_ | ((with_reducible refine Ask.mk ?_); first | exact aAsk | (exact hml) | (rw [hnl]; omega) | exact aAsk2 | (intro h; simp_all [lookCells, Node.cells] <;> fail) | (simp_all [lookCells, Node.cells] <;> fail)) | (apply Go.elem; (· (first | exact el _ | exact en _ | exact aElem))) | refine aH ?_ | ((with_reducible refine Go.bool ?_ ?_) <;> intro hc <;> (try simp only [List.length_map, ne_eq, hcs] at hc) <;> try (exfalso; omega)))
      refine Go.loop (fun k : Nat => [(0, lookX g t cls), (1, .sl b l.length), (5, .sl (nx + 5) l.length), (6, i64 i), (7, i64 (g.nd (iter g i k)).next), (8, i64 k), (12, i64 l.length), (13, i64 i)])
        (fun k H' n' => k ≤ l.length ∧ n2 ≤ n' ∧ RingAt l g i k ∧ (∃ d, getH H' b = some (.row 4 1 d (l.map bl))) ∧ (∃ d, getH H' (nx + 5) = some (.row 4 1 d ((ringTo l g i).map bl))) ∧ ∀ y, y < nx → getH H' y = getH H y) (fun k => l.length - k) 0 aLess ⟨Nat.zero_le _, aNx, ⟨fun q hq => by rw [show q = 0 by omega]; exact hti, fun q h1 h2 => by omega⟩, ⟨_, aRow⟩, ⟨_, aRow⟩, fun y hy => Eq.trans aSkip (hk2 y hy)⟩ ?_
      clear rb r5 hk2
      rintro k H3 n3 ⟨hk, hn3, hra, ⟨db, rb⟩, ⟨d5, r5⟩, hk3⟩
      obtain ⟨x0, x1⟩ := hnx _ (hra.such k (Nat.le_refl _))
      have hx1 : (g.nd (iter g i k)).next.toNat < l.length := by omega
      have ex : ∀ d, (l.map bl).getD ((g.nd (iter g i k)).next).toNat d = bl (tf l (iter g i (k + 1))) := fun d => getD_av bl l _ d hx1
      have em : ∀ d, (g.nodes.map Node.av).getD ((g.nd (iter g i k)).next).toNat d = (g.nd (iter g i (k + 1))).av := fun d => getD_av Node.av g.nodes _ d (by rw [← hlm]; exact hx1)
      by_cases hkl : k < l.length
      · have hkd : decide ((k : Int) < (l.length : Int)) = true := decide_eq_true (by omega)
        cases htk : tf l (iter g i (k + 1)) with
        | false =>
          rw [htk] at ex
          have hkp := ringTo_keep (l := l) (g := g) (i := i) (fun _ => ring_none hra (.inr htk))
          repeat' (first | ((with_reducible refine Go.red ?_); conv => whnf) | refine aG ?_ | exact aCn | with_reducible refine Go.and ?_ ?_ | ((with_reducible refine Ask.mk ?_); first | exact aAsk | (exact hml) | exact aAsk2 | (intro h; simp_all [lookCells, Node.cells] <;> fail) | (simp_all [lookCells, Node.cells] <;> fail)) | (apply Go.elem; (· (first | exact ex _ | exact aElem))) | (simp only [hkd]) | refine aH ?_ | ((with_reducible refine Go.bool ?_ ?_) <;> intro hc <;> (try simp only [List.length_map, ne_eq, hcs] at hc) <;> try (exfalso; omega)))
          exact ⟨i + 1, by omega, aLess, by omega, by omega, ⟨_, aRow⟩, ⟨_, by rw [hkp]; exact aRow⟩, fun y hy => Eq.trans aSkip (hk3 y hy)⟩
        | true =>
          rw [htk] at ex
          by_cases hxi : (g.nd (iter g i k)).next = (i : Int)
          · have hret : Ret l g i := ⟨k + 1, by omega, by show (g.nd (iter g i k)).next.toNat = i; omega, fun q hq => hra.such q (by omega)⟩
            have hst := ringTo_ret hil hret
            have hsl : ((ringTo l g i).map bl).set ((i : Nat) : Int).toNat (bl false) = (ringTo l g (i + 1)).map bl := by rw [Int.toNat_natCast, hst, bool_set]
            have eo := fun d => bl_at (l := ringTo l g i) (k := i) (by rw [ringTo_len]; exact hil) d
            repeat' (first | ((with_reducible refine Go.red ?_); conv => whnf) | refine aG ?_ | exact aCn | with_reducible refine Go.and ?_ ?_ | ((with_reducible refine Ask.mk ?_); first | exact aAsk | (exact hml) | (exact hrl) | exact aAsk2 | (intro h; simp_all [lookCells, Node.cells] <;> fail) | (simp_all [lookCells, Node.cells] <;> fail)) | (apply Go.elem; (· (first | exact ex _ | exact el _ | exact eo _ | exact aElem))) | (simp only [hkd]) | (simp only [hxi]) | refine aH ?_ | ((with_reducible refine Go.bool ?_ ?_) <;> intro hc <;> (try simp only [List.length_map, ne_eq, hcs] at hc) <;> try (exfalso; omega)))
            exact ⟨i + 1, by omega, aLess, by omega, by omega, ⟨_, aRow⟩, ⟨_, by rw [← hsl]; exact aRow⟩, fun y hy => Eq.trans aSkip (hk3 y hy)⟩
          · repeat' (first | ((with_reducible refine Go.red ?_); conv => whnf) | refine aG ?_ | exact aCn | with_reducible refine Go.and ?_ ?_ | ((with_reducible refine Ask.mk ?_); first | exact aAsk | (exact hml) | (rw [hnl]; omega) | exact aAsk2 | (intro h; simp_all [lookCells, Node.cells] <;> fail) | (simp_all [lookCells, Node.cells] <;> fail)) | (apply Go.elem; (· (first | exact ex _ | exact em _ | exact aElem))) | (simp only [hkd]) | refine aH ?_ | ((with_reducible refine Go.bool ?_ ?_) <;> intro hc <;> (try simp only [List.length_map, ne_eq, hcs] at hc) <;> try (exfalso; omega)))
            refine ⟨k + 1, by omega, aLess, by omega, by omega, ⟨fun q hq => ?_, fun q h1 h2 => ?_⟩, ⟨_, aRow⟩, ⟨_, aRow⟩, fun y hy => Eq.trans aSkip (hk3 y hy)⟩
            · by_cases e : q = k + 1
              · rw [e]; exact htk
              · exact hra.such q (by omega)
            · by_cases e : q = k + 1
              · rw [e]; intro h
                apply hxi
                have h : (g.nd (iter g i k)).next.toNat = i := h
                omega
              · exact hra.not q h1 (by omega)
      · have hkp := ringTo_keep (l := l) (g := g) (i := i) (fun _ => ring_none hra (.inl (by omega)))
        repeat' (first | ((with_reducible refine Go.red ?_); conv => whnf) | refine aG ?_ | exact aCn | with_reducible refine Go.and ?_ ?_ | ((with_reducible refine Ask.mk ?_); first | exact aAsk | (exact hml) | exact aAsk2 | (intro h; simp_all [lookCells, Node.cells] <;> fail) | (simp_all [lookCells, Node.cells] <;> fail)) | (apply Go.elem; (· (first | exact ex _ | exact aElem))) | refine aH ?_ | ((with_reducible refine Go.bool ?_ ?_) <;> intro hc <;> (try simp only [List.length_map, ne_eq, hcs] at hc) <;> try (exfalso; omega)))
        exact ⟨i + 1, by omega, aLess, by omega, by omega, ⟨_, aRow⟩, ⟨_, by rw [hkp]; exact aRow⟩, fun y hy => Eq.trans aSkip (hk3 y hy)⟩
  · have : i = l.length := by omega
    subst this
    rw [ringTo_end] at r5
    repeat' (first | ((with_reducible refine Go.red ?_); conv => whnf) | refine aG ?_ | exact aC | with_reducible refine Go.and ?_ ?_ | (apply Go.elem; (· exact aElem)) | refine aH ?_ | ((with_reducible refine Go.bool ?_ ?_) <;> intro hc <;> (try simp only [List.length_map, ne_eq, hcs] at hc) <;> try (exfalso; omega)))
    exact ⟨⟨nx + 5, d5, rfl, by omega, aNx, aRow, fun y hy => Eq.trans aSkip (hk2 y hy)⟩⟩
theorem such_next {u : UnitS} {g : Graph} (hk : GraphOk u g) {cls : List ClassV} {t j : Nat} (h : tf (suchL g cls t) j = true) : 0 ≤ (g.nd j).next ∧ (g.nd j).next < g.nodes.length := by
  have hj : j < g.nodes.length := by have := tf_lt h; rw [suchL_len] at this; exact this
  have hs : suchB g cls t j = true := by simpa [tf, suchL, suchTo, List.getD, hj] using h
  have hno := hk.node hj
  have hkk : (g.nd j).kind = 1 ∨ (g.nd j).kind = 2 ∨ (g.nd j).kind = 3 ∨ (g.nd j).kind = 8 := by
    unfold suchB at hs
    dsimp only at hs
    rw [Bool.and_eq_true] at hs
    obtain ⟨_, hs⟩ := hs
    split at hs
    · omega
    · split at hs
      · omega
      · split at hs
        · omega
        · split at hs
          · omega
          · cases hs
  exact hno.next.1 (by unfold usesNext; exact decide_eq_true (by omega))
theorem idle_call (u : UnitS) (g : Graph) (hg : g.Wf) (hk : GraphOk u g) (t : Nat) (cls : List ClassV) (hcl : cls.length = u.shared.length) (hcl64 : cls.length ≤ 64) (H : Hp) (nx : Nat) :
    CallN Tryd.prog 39 [lookX g t cls] H nx (fun r H2 n2 => ∃ b2 d2, r = .sl b2 g.nodes.length ∧ nx ≤ b2 ∧ b2 < n2 ∧ getH H2 b2 = some (.row 4 1 d2 ((idleL g cls t).map bl)) ∧ ∀ y, y < nx → getH H2 y = getH H y) :=
  such_call u g hg hk t cls hcl hcl64 H nx fun b H' n' d hb hbn => rings_call g hg hk.whole t cls (suchL g cls t) (suchL_len g cls t) (fun j hj => such_next hk hj) b H' n' d hb hbn
end Go.Proofs.YtmonponfppdgfaaDoor
end
