import Derived.Test.YtmonponfppdgfaaDoorM33
import Derived.Test.YtmonponfppdgfaaDoorM20
section
/- Units held one against another by the document; calm threads: the walk. -/
namespace Go.Proofs.YtmonponfppdgfaaDoor
open Go Go.Abs Go.Proofs
set_option linter.unusedSimpArgs false
set_option linter.unusedVariables false
theorem bneB (a b : ByteArray) : (a != b) = !decide (a = b) := by rw [bne, beqB]
theorem rdecls_pure (l m : List Decl) (hl : l.length * 32 ≤ 140737488351232) (hm : m.length * 32 ≤ 140737488351232) : Pure Tryd.prog 17 [declsAv l, declsAv m] (fun r => r = bl (decide (l = m))) := by
  refine Go.pureL lf17 rfl ?_
  repeat' (first | ((with_reducible refine Go.red ?_); conv => whnf) | refine aG ?_ | exact aC | with_reducible refine Go.and ?_ ?_ | (apply Go.elem; (· exact aElem)) | refine aH ?_ | ((with_reducible refine Go.bool ?_ ?_) <;> intro hc <;> (try simp only [List.length_map, ne_eq, hcs] at hc) <;> try (exfalso; omega)))
  · refine bl_eq (Eq.symm ?_)
    exact decide_eq_false fun e => hc (by rw [e])
  · have hlm : l.length = m.length := by omega
    refine Go.loop (fun i : Nat => [(0, declsAv l), (1, declsAv m), (5, i64 i)])
      (fun i H n => i ≤ l.length ∧ ∀ j, j < i → l.getD j default = m.getD j default) (fun i => l.length - i) 0 aLess ⟨Nat.zero_le _, fun _ h => by omega⟩ ?_
    rintro i H n ⟨hi, hall⟩
    by_cases hil : i < l.length
    · have e1 := fun d => dec_at (l := l) hil d
      have e2 := fun d => dec_at (l := m) (i := i) (by omega) d
      repeat' (first | ((with_reducible refine Go.red ?_); conv => whnf) | refine aG ?_ | exact aCn | with_reducible refine Go.and ?_ ?_ | ((with_reducible refine Ask.mk ?_); first | exact aAsk | exact aAsk2 | (intro h; simp_all [Decl.cells] <;> fail) | (simp_all [Decl.cells] <;> fail)) | (apply Go.elem; (· (first | exact e1 _ | exact e2 _ | exact aElem))) | refine aH ?_ | ((with_reducible refine Go.bool ?_ ?_) <;> intro hc <;> (try simp only [List.length_map, ne_eq, hcs] at hc) <;> try (exfalso; omega)))
      · refine bl_eq (Eq.symm ?_)
        refine decide_eq_false fun e => ?_
        rw [e] at hc
        simp [beqB] at hc
      · refine ⟨i + 1, by omega, aLess, by omega, fun j hj => ?_⟩
        by_cases hji : j = i
        · subst hji
          obtain ⟨h1, h2, h3, _⟩ := hc
          rw [beqB, decide_eq_true_eq] at h1
          exact Decl.ext3 h1 h2 h3
        · exact hall j (by omega)
    · have : i = l.length := by omega
      subst this
      repeat' (first | ((with_reducible refine Go.red ?_); conv => whnf) | refine aG ?_ | exact aC | with_reducible refine Go.and ?_ ?_ | (apply Go.elem; (· exact aElem)) | refine aH ?_ | ((with_reducible refine Go.bool ?_ ?_) <;> intro hc <;> (try simp only [List.length_map, ne_eq, hcs] at hc) <;> try (exfalso; omega)))
      refine bl_eq (Eq.symm ?_)
      exact decide_eq_true (list_eq default hlm hall)
set_option maxHeartbeats 8000000 in
theorem rgraph_pure (a b : Graph) (ha : a.Wf) (hb : b.Wf) : Pure Tryd.prog 27 [a.av, b.av] (fun r => r = bl (decide (a = b))) := by
  have hla := ha.len
  have hlb := hb.len
  refine Go.pureL lf27 rfl ?_
  repeat' (first | ((with_reducible refine Go.red ?_); conv => whnf) | refine aG ?_ | exact aCn | with_reducible refine Go.and ?_ ?_ | ((with_reducible refine Ask.mk ?_); first | exact aAsk | exact aAsk2 | (intro h; simp_all [Graph.cells] <;> fail) | (simp_all [Graph.cells] <;> fail)) | (apply Go.elem; (· exact aElem)) | refine aH ?_ | ((with_reducible refine Go.bool ?_ ?_) <;> intro hc <;> (try simp only [List.length_map, ne_eq, hcs] at hc) <;> try (exfalso; omega)))
  · refine bl_eq (Eq.symm ?_)
    refine decide_eq_false fun e => ?_
    rw [e] at hc
    simp [bneB] at hc
  · have hnm : a.name = b.name ∧ a.locals = b.locals ∧ a.slots = b.slots ∧ a.nodes.length = b.nodes.length := by
      simp [bneB] at hc
      exact ⟨hc.1.1.1, hc.1.1.2, hc.1.2, by have := hc.2; omega⟩
    refine Go.loop (fun i : Nat => [(2, .pt 0 1 0 0), (3, .pt 1 1 0 0), (5, i64 i)])
      (fun i H n => i ≤ a.nodes.length ∧ 2 ≤ n ∧ (∃ d, getH H 0 = some (.row 33 4 d [a.av])) ∧ (∃ d, getH H 1 = some (.row 33 4 d [b.av])) ∧ ∀ j, j < i → a.nodes.getD j default = b.nodes.getD j default) (fun i => a.nodes.length - i) 0 aLess ⟨Nat.zero_le _, aNx, ⟨_, aRow⟩, ⟨_, aRow⟩, fun _ h => by omega⟩ ?_
    clear hc
    rintro i H n ⟨hi, hn, ⟨d0, r0⟩, ⟨d1, r1⟩, hall⟩
    by_cases hil : i < a.nodes.length
    · have e1 := fun d => nd_at (l := a.nodes) hil d
      have e2 := fun d => nd_at (l := b.nodes) (i := i) (by omega) d
      repeat' (first | ((with_reducible refine Go.red ?_); conv => whnf) | refine aG ?_ | exact aCn | with_reducible refine Go.and ?_ ?_ | ((with_reducible refine Ask.mk ?_); first | exact aAsk | exact aAsk2 | (intro h; simp_all [Graph.cells, Node.cells] <;> fail) | (simp_all [Graph.cells, Node.cells] <;> fail)) | (apply Go.elem; (· (first | exact e1 _ | exact e2 _ | exact aElem))) | refine aH ?_ | ((with_reducible refine Go.bool ?_ ?_) <;> intro hc <;> (try simp only [List.length_map, ne_eq, hcs] at hc) <;> try (exfalso; omega)))
      · refine bl_eq (Eq.symm ?_)
        refine decide_eq_false fun e => ?_
        rw [e] at hc
        simp at hc
      · refine ⟨i + 1, by omega, aLess, by omega, aNx, ⟨_, aRow⟩, ⟨_, aRow⟩, fun j hj => ?_⟩
        by_cases hji : j = i
        · subst hji
          obtain ⟨h1, h2, h3, h4, h5, h6, h7, h8, h9, h10, h11, h12, h13, _⟩ := hc
          exact Node.ext9 h1 h2 h3 h4 (Val.ext3 (by simpa using h5) h6 h7) (Val.ext3 (by simpa using h8) h9 h10) h11 h12 h13
        · exact hall j (by omega)
    · have : i = a.nodes.length := by omega
      subst this
      repeat' (first | ((with_reducible refine Go.red ?_); conv => whnf) | refine aG ?_ | exact aCn | with_reducible refine Go.and ?_ ?_ | ((with_reducible refine Ask.mk ?_); first | exact aAsk | exact aAsk2 | (intro h; simp_all [Graph.cells] <;> fail) | (simp_all [Graph.cells] <;> fail)) | (apply Go.elem; (· exact aElem)) | refine aH ?_ | ((with_reducible refine Go.bool ?_ ?_) <;> intro hc <;> (try simp only [List.length_map, ne_eq, hcs] at hc) <;> try (exfalso; omega)))
      refine bl_eq (Eq.symm ?_)
      exact decide_eq_true (Graph.ext4 hnm.1 hnm.2.1 hnm.2.2.1 (list_eq default hnm.2.2.2 hall))
set_option maxHeartbeats 4000000 in
theorem rsame_pure (u v : UnitS) (hu : u.Wf) (hv : v.Wf) : Pure Tryd.prog 9 [u.av, v.av] (fun r => r = bl (decide (u = v))) := by
  have h1 := rdecls_pure u.shared v.shared hu.sharedlen hv.sharedlen
  have h2 := rdecls_pure u.locks v.locks hu.lockslen hv.lockslen
  have hgl := hu.graphslen
  have hgl2 := hv.graphslen
  refine Go.pureL lf9 rfl ?_
  repeat' (first | ((with_reducible refine Go.red ?_); conv => whnf) | refine aG ?_ | exact aCn | with_reducible refine Go.and ?_ ?_ | ((with_reducible refine Ask.mk ?_); first | exact aAsk | exact aAsk2 | (intro h; simp_all [UnitS.cells] <;> fail) | (simp_all [UnitS.cells] <;> fail)) | (apply Go.elem; (· exact aElem)) | refine aK (h1) ?_ | refine aK (h2) ?_ | refine aH ?_ | ((with_reducible refine Go.bool ?_ ?_) <;> intro hc <;> (try simp only [List.length_map, ne_eq, hcs] at hc) <;> try (exfalso; omega)))
  · refine bl_eq (Eq.symm ?_)
    refine decide_eq_false fun e => ?_
    rw [e] at hc
    simp at hc
  · have hnm : u.graphs.length = v.graphs.length ∧ u.shared = v.shared ∧ u.locks = v.locks := by
      simp at hc
      exact ⟨by have := hc.1.1; omega, hc.1.2, hc.2⟩
    refine Go.loop (fun i : Nat => [(2, .pt 0 1 0 0), (3, .pt 1 1 0 0), (5, i64 i)])
      (fun i H n => i ≤ u.graphs.length ∧ 2 ≤ n ∧ (∃ d, getH H 0 = some (.row 25 3 d [u.av])) ∧ (∃ d, getH H 1 = some (.row 25 3 d [v.av])) ∧ ∀ j, j < i → u.graphs.getD j default = v.graphs.getD j default) (fun i => u.graphs.length - i) 0 aLess ⟨Nat.zero_le _, aNx, ⟨_, aRow⟩, ⟨_, aRow⟩, fun _ h => by omega⟩ ?_
    clear hc h1 h2
    rintro i H n ⟨hi, hn, ⟨d0, r0⟩, ⟨d1, r1⟩, hall⟩
    by_cases hil : i < u.graphs.length
    · have e1 := fun d => gr_at (l := u.graphs) hil d
      have e2 := fun d => gr_at (l := v.graphs) (i := i) (by omega) d
      have hg := rgraph_pure (u.graphs.getD i default) (v.graphs.getD i default) (hu.graphs _ (getD_mem' default hil)) (hv.graphs _ (getD_mem' default (by omega)))
      by_cases heq : u.graphs.getD i default = v.graphs.getD i default
      · rw [decide_eq_true heq] at hg
        repeat' (first | ((with_reducible refine Go.red ?_); conv => whnf) | refine aG ?_ | exact aCn | with_reducible refine Go.and ?_ ?_ | ((with_reducible refine Ask.mk ?_); first | exact aAsk | exact aAsk2 | (intro h; simp_all [UnitS.cells, Graph.cells] <;> fail) | (simp_all [UnitS.cells, Graph.cells] <;> fail)) | (apply Go.elem; (· (first | exact e1 _ | exact e2 _ | exact aElem))) | refine aK (hg) ?_ | refine aH ?_ | ((with_reducible refine Go.bool ?_ ?_) <;> intro hc <;> (try simp only [List.length_map, ne_eq, hcs] at hc) <;> try (exfalso; omega)))
        refine ⟨i + 1, by omega, aLess, by omega, aNx, ⟨_, aRow⟩, ⟨_, aRow⟩, fun j hj => ?_⟩
        by_cases hji : j = i
        · subst hji; exact heq
        · exact hall j (by omega)
      · rw [decide_eq_false heq] at hg
        repeat' (first | ((with_reducible refine Go.red ?_); conv => whnf) | refine aG ?_ | exact aCn | with_reducible refine Go.and ?_ ?_ | ((with_reducible refine Ask.mk ?_); first | exact aAsk | exact aAsk2 | (intro h; simp_all [UnitS.cells, Graph.cells] <;> fail) | (simp_all [UnitS.cells, Graph.cells] <;> fail)) | (apply Go.elem; (· (first | exact e1 _ | exact e2 _ | exact aElem))) | refine aK (hg) ?_ | refine aH ?_ | ((with_reducible refine Go.bool ?_ ?_) <;> intro hc <;> (try simp only [List.length_map, ne_eq, hcs] at hc) <;> try (exfalso; omega)))
        refine bl_eq (Eq.symm ?_)
        exact decide_eq_false fun e => heq (by rw [e])
    · have : i = u.graphs.length := by omega
      subst this
      repeat' (first | ((with_reducible refine Go.red ?_); conv => whnf) | refine aG ?_ | exact aCn | with_reducible refine Go.and ?_ ?_ | ((with_reducible refine Ask.mk ?_); first | exact aAsk | exact aAsk2 | (intro h; simp_all [UnitS.cells] <;> fail) | (simp_all [UnitS.cells] <;> fail)) | (apply Go.elem; (· exact aElem)) | refine aH ?_ | ((with_reducible refine Go.bool ?_ ?_) <;> intro hc <;> (try simp only [List.length_map, ne_eq, hcs] at hc) <;> try (exfalso; omega)))
      refine bl_eq (Eq.symm ?_)
      exact decide_eq_true (UnitS.ext3 hnm.2.1 hnm.2.2 (list_eq default hnm.1 hall))
theorem creached_pure (g : Graph) (hg : g.Wf) (hw : Whole g) : Pure Tryd.prog 28 [g.av] (fun r => r = imB (reachL g (-1))) :=
  reached_pure g hg (wholeB_of hw) (spread_pure g hg hw (-1) (by unfold wf64; omega))
noncomputable def calmB (u : UnitS) (t : Nat) : Bool := decide (((onceU u).gr t).nodes.length = (u.gr t).nodes.length)
set_option maxHeartbeats 4000000 in
theorem calm_pure (u : UnitS) (hu : u.Wf) (hr : RightU u) (t : Nat) (ht : t < u.graphs.length) : Pure Tryd.prog 10 [u.av, i64 t] (fun r => r = bl (calmB u t)) := by
  have hi := Idle_pure u hu t
  unfold listAv at hi
  rw [if_pos (rightB_iff.2 hr), if_neg (by omega), Int.toNat_natCast] at hi
  have hre := creached_pure (u.gr t) (hu.graphs _ (getD_mem' default ht)) (hr.gr ht).whole
  have hc0 := once_calm hr ht
  have hgl := (hr.gr ht).len
  have eg := fun d => gr_at (l := u.graphs) ht d
  have hil := idleL_len (u.gr t) (classesU u) t
  have hrl := reachL_len (u.gr t) (-1)
  have hcb : calmB u t = decide (∀ i, i < (u.gr t).nodes.length → fnd (reachL (u.gr t) (-1)) (i : Int) = true ∧ tf (idleL (u.gr t) (classesU u) t) i = false) := by
    unfold calmB; rw [Bool.eq_iff_iff, decide_eq_true_eq, decide_eq_true_eq]; exact hc0
  rw [hcb]
  clear hc0 hcb
  generalize hR : reachL (u.gr t) (-1) = R at *
  generalize hI : idleL (u.gr t) (classesU u) t = I at *
  unfold imB at hi hre
  have hml : (I.map bl).length = (u.gr t).nodes.length := by simp [hil]
  have hml2 : (R.map bl).length = (u.gr t).nodes.length := by simp [hrl]
  refine Go.pureL lf10 rfl ?_
  repeat' (first | ((with_reducible refine Go.red ?_); conv => whnf) | refine aG ?_ | exact aCn | with_reducible refine Go.and ?_ ?_ | ((with_reducible refine Ask.mk ?_); first | exact aAsk | exact aAsk2 | (intro h; simp_all [UnitS.cells] <;> fail) | (simp_all [UnitS.cells] <;> fail)) | (apply Go.elem; (· (first | exact eg _ | exact aElem))) | refine aK (hi) ?_ | refine aK (hre) ?_ | refine aH ?_ | ((with_reducible refine Go.bool ?_ ?_) <;> intro hc <;> (try simp only [List.length_map, ne_eq, hcs] at hc) <;> try (exfalso; omega)))
  · exact (hc.elim (fun h => h trivial) (fun h => h (by omega))).elim
  clear hc hi hre
  refine Go.loop (fun i : Nat => [(5, .im 1 .any (R.map bl)), (6, .im 1 .any (I.map bl)), (8, i64 i)])
    (fun i H n => i ≤ (u.gr t).nodes.length ∧ ∀ j, j < i → fnd R (j : Int) = true ∧ tf I j = false) (fun i => (u.gr t).nodes.length - i) 0 aLess ⟨Nat.zero_le _, fun _ h => by omega⟩ ?_
  rintro i H n ⟨hil2, hall⟩
  by_cases hlt : i < (u.gr t).nodes.length
  · have e1 := fun d => bools_at (l := R) (k := i) d (by omega)
    have e2 := fun d => bl_at (l := I) (k := i) (by omega) d
    cases h1 : I.getD i false with
    | true =>
      rw [h1] at e2
      repeat' (first | ((with_reducible refine Go.red ?_); conv => whnf) | refine aG ?_ | exact aCn | with_reducible refine Go.and ?_ ?_ | ((with_reducible refine Ask.mk ?_); first | exact aAsk | (exact hml) | (exact hml2) | exact aAsk2) | (apply Go.elem; (· (first | exact e2 _ | exact e1 _ | exact aElem))) | refine aH ?_ | ((with_reducible refine Go.bool ?_ ?_) <;> intro hc <;> (try simp only [List.length_map, ne_eq, hcs] at hc) <;> try (exfalso; omega)))
      refine bl_eq (Eq.symm (decide_eq_false fun h => ?_))
      have := (h i hlt).2
      rw [show tf I i = I.getD i false from rfl, h1] at this; cases this
    | false =>
      rw [h1] at e2
      cases h2 : fnd R (i : Int) with
      | false =>
        rw [h2] at e1
        repeat' (first | ((with_reducible refine Go.red ?_); conv => whnf) | refine aG ?_ | exact aCn | with_reducible refine Go.and ?_ ?_ | ((with_reducible refine Ask.mk ?_); first | exact aAsk | (exact hml) | (exact hml2) | exact aAsk2) | (apply Go.elem; (· (first | exact e2 _ | exact e1 _ | exact aElem))) | refine aH ?_ | ((with_reducible refine Go.bool ?_ ?_) <;> intro hc <;> (try simp only [List.length_map, ne_eq, hcs] at hc) <;> try (exfalso; omega)))
        refine bl_eq (Eq.symm (decide_eq_false fun h => ?_))
        have := (h i hlt).1
        rw [h2] at this; cases this
      | true =>
        rw [h2] at e1
        repeat' (first | ((with_reducible refine Go.red ?_); conv => whnf) | refine aG ?_ | exact aCn | with_reducible refine Go.and ?_ ?_ | ((with_reducible refine Ask.mk ?_); first | exact aAsk | (exact hml) | (exact hml2) | exact aAsk2) | (apply Go.elem; (· (first | exact e2 _ | exact e1 _ | exact aElem))) | refine aH ?_ | ((with_reducible refine Go.bool ?_ ?_) <;> intro hc <;> (try simp only [List.length_map, ne_eq, hcs] at hc) <;> try (exfalso; omega)))
        refine ⟨i + 1, by omega, aLess, by omega, fun j hj => ?_⟩
        by_cases e : j = i
        · subst e; exact ⟨h2, h1⟩
        · exact hall j (by omega)
  · have : i = (u.gr t).nodes.length := by omega
    repeat' (first | ((with_reducible refine Go.red ?_); conv => whnf) | refine aG ?_ | exact aCn | with_reducible refine Go.and ?_ ?_ | ((with_reducible refine Ask.mk ?_); first | exact aAsk | (exact hml) | exact aAsk2) | (apply Go.elem; (· exact aElem)) | refine aH ?_ | ((with_reducible refine Go.bool ?_ ?_) <;> intro hc <;> (try simp only [List.length_map, ne_eq, hcs] at hc) <;> try (exfalso; omega)))
    exact bl_eq (Eq.symm (decide_eq_true fun j hj => hall j (by omega)))
end Go.Proofs.YtmonponfppdgfaaDoor
end
section
/- A Sweep of a Sweep is the same; all its nodes are reached, none is idle; no thread has more nodes: the law's walk. -/
namespace Go.Proofs.YtmonponfppdgfaaDoor
open Go Go.Abs Go.Proofs
set_option linter.unusedSimpArgs false
set_option linter.unusedVariables false
structure Swept (u v : UnitS) : Prop where
  wf : v.Wf
  len : v.graphs.length = u.graphs.length
  less : ∀ t, t < u.graphs.length → (v.gr t).nodes.length ≤ (u.gr t).nodes.length
theorem Swept.once {u v : UnitS} (hr : RightU v) (h : Swept u v) : Swept u (onceU v) :=
  ⟨once_wf h.wf hr, (onceU_len v).trans h.len, fun t ht => Nat.le_trans (once_less hr t (by rw [h.len]; exact ht)) (h.less t ht)⟩
theorem swept_u {u : UnitS} (hu : u.Wf) (hr : RightU u) : RightU (sweepU u) ∧ Swept u (sweepU u) :=
  sweep_ind (P := Swept u) hr ⟨hu, rfl, fun _ _ => Nat.le_refl _⟩ fun v hv h => h.once hv
theorem swept_once {u : UnitS} (hu : u.Wf) (hr : RightU u) : Swept (onceU u) (sweepU u) :=
  (sweepN_ind (P := Swept (onceU u)) (fun v hv h => h.once hv) _ _ (once_right hr) ⟨once_wf hu hr, rfl, fun _ _ => Nat.le_refl _⟩).2
set_option maxHeartbeats 8000000 in
theorem deadRest_main (u : UnitS) (hu : u.Wf) : Pure Tryd.prog 3 [u.av] (fun r => r = bl true) := by
  refine Go.pureL lf3 rfl ?_
  have hb := begins_pure
  by_cases hr : RightU u
  · have h1 := Once_right u hu hr
    have h2 := Sweep_right u hu hr
    obtain ⟨hvr, hsw⟩ := swept_u hu hr
    have hso := swept_once hu hr
    have hvw := hsw.wf
    have hvl := hsw.len
    have hal := onceU_len u
    have hfew := hr.few
    have h3 := Sweep_right (sweepU u) hvw hvr
    rw [sweep_twice hr] at h3
    have h4 := rsame_pure (sweepU u) (sweepU u) hvw hvw
    rw [decide_eq_true rfl] at h4
    have hcv : ∀ t, t < u.graphs.length → Pure Tryd.prog 10 [(sweepU u).av, i64 t] (fun r => r = bl true) := fun t ht => by
      have := calm_pure (sweepU u) hvw hvr t (by omega)
      unfold calmB at this
      rw [sweep_fix hr, decide_eq_true rfl] at this
      exact this
    have hcu := fun t ht => calm_pure u hu hr t ht
    have hle1 := once_less hr
    have hle2 := hso.less
    rw [hal] at hle2
    unfold calmB at hcu
    generalize sweepU u = v at *
    generalize onceU u = a at *
    repeat' (first | ((with_reducible refine Go.red ?_); conv => whnf) | refine aG ?_ | exact aCn | with_reducible refine Go.and ?_ ?_ | ((with_reducible refine Ask.mk ?_); first | exact aAsk | exact aAsk2 | (intro h; simp_all [UnitS.cells] <;> fail) | (simp_all [UnitS.cells] <;> fail)) | (apply Go.elem; (· exact aElem)) | refine aK (hb) ?_ | refine aK (h1) ?_ | refine aK (h2) ?_ | refine aK (h3) ?_ | refine aK (h4) ?_ | refine aH ?_ | ((with_reducible refine Go.bool ?_ ?_) <;> intro hc <;> (try simp only [List.length_map, ne_eq, hcs] at hc) <;> try (exfalso; omega)))
    · exfalso; simp at hc; omega
    clear hc
    refine Go.loop (fun t : Nat => [(1, .pt 0 1 0 0), (3, .pt 7 1 0 0), (5, .pt 14 1 0 0), (9, i64 t)])
      (fun t H n => t ≤ u.graphs.length ∧ 30 ≤ n ∧ (∃ d, getH H 0 = some (.row 25 3 d [u.av])) ∧ (∃ d, getH H 7 = some (.row 25 3 d [a.av])) ∧ (∃ d, getH H 14 = some (.row 25 3 d [v.av]))) (fun t => u.graphs.length - t) 0 aLess ⟨Nat.zero_le _, aNx, ⟨_, aRow⟩, ⟨_, aRow⟩, ⟨_, aRow⟩⟩ ?_
    rintro t H n ⟨ht, hn, ⟨d0, r0⟩, ⟨d7, r7⟩, ⟨d14, r14⟩⟩
    by_cases htl : t < u.graphs.length
    · have e1 := fun d => gr_at (l := u.graphs) htl d
      have e2 := fun d => gr_at (l := a.graphs) (i := t) (by omega) d
      have e3 := fun d => gr_at (l := v.graphs) (i := t) (by omega) d
      have q1 := hcv t htl
      have q2 := hcu t htl
      have l1 := hle1 t htl
      have l2 := hle2 t htl
      repeat' (first | ((with_reducible refine Go.red ?_); conv => whnf) | refine aG ?_ | exact aCn | with_reducible refine Go.and ?_ ?_ | ((with_reducible refine Ask.mk ?_); first | exact aAsk | exact aAsk2 | (intro h; simp_all [UnitS.cells, Graph.cells] <;> fail) | (simp_all [UnitS.cells, Graph.cells] <;> fail)) | (apply Go.elem; (· (first | exact e1 _ | exact e2 _ | exact e3 _ | exact aElem))) | refine aK (q1) ?_ | refine aK (q2) ?_ | refine aH ?_ | ((with_reducible refine Go.bool ?_ ?_) <;> intro hc <;> (try simp only [List.length_map, ne_eq, hcs] at hc) <;> try (exfalso; omega)))
      · exfalso
        have l1 : (a.graphs.getD t default).nodes.length ≤ (u.graphs.getD t default).nodes.length := l1
        have l2 : (v.graphs.getD t default).nodes.length ≤ (a.graphs.getD t default).nodes.length := l2
        rcases hc with (h | h) | h
        · omega
        · omega
        · cases h
      · exfalso
        have he : decide ((a.gr t).nodes.length = (u.gr t).nodes.length) = decide (((a.graphs.getD t default).nodes.length : Int) = ((u.graphs.getD t default).nodes.length : Int)) := decide_eq_decide.2 ⟨fun h => congrArg (fun n : Nat => (n : Int)) h, fun h => Int.ofNat.inj h⟩
        rw [he] at hc
        simp at hc
      · exact ⟨t + 1, by omega, aLess, by omega, aNx, ⟨_, aRow⟩, ⟨_, aRow⟩, ⟨_, aRow⟩⟩
    · have : t = u.graphs.length := by omega
      subst this
      repeat' (first | ((with_reducible refine Go.red ?_); conv => whnf) | refine aG ?_ | exact aCn | with_reducible refine Go.and ?_ ?_ | ((with_reducible refine Ask.mk ?_); first | exact aAsk | exact aAsk2 | (intro h; simp_all [UnitS.cells] <;> fail) | (simp_all [UnitS.cells] <;> fail)) | (apply Go.elem; (· exact aElem)) | refine aH ?_ | ((with_reducible refine Go.bool ?_ ?_) <;> intro hc <;> (try simp only [List.length_map, ne_eq, hcs] at hc) <;> try (exfalso; omega)))
      exact rfl
  · have h1 := Once_bad u hu hr
    have h2 := Sweep_bad u hu hr
    repeat' (first | ((with_reducible refine Go.red ?_); conv => whnf) | refine aG ?_ | exact aCn | with_reducible refine Go.and ?_ ?_ | ((with_reducible refine Ask.mk ?_); first | exact aAsk | exact aAsk2 | (intro h; simp_all [UnitS.cells] <;> fail) | (simp_all [UnitS.cells] <;> fail)) | (apply Go.elem; (· exact aElem)) | refine aK (hb) ?_ | refine aK (h1) ?_ | refine aK (h2) ?_ | refine aH ?_ | ((with_reducible refine Go.bool ?_ ?_) <;> intro hc <;> (try simp only [List.length_map, ne_eq, hcs] at hc) <;> try (exfalso; omega)))
    exact rfl
end Go.Proofs.YtmonponfppdgfaaDoor
end
section
/- A Sweep of a Sweep is the same; all its nodes are reached and none is idle; no thread has more nodes: for every unit. No conditions beyond the card's own: the library's table starts as its text lays it. -/
namespace Go.Proofs.YtmonponfppdgfaaDoor
open Go Go.Abs Go.Proofs Go.RowKit Go.ChangeShapes Go.WideShapes Go.ChangeAt
set_option linter.unusedSimpArgs false
set_option linter.unusedVariables false
set_option maxRecDepth 100000 in
theorem deadRest_lifted (os : Os) (started : os.Started) (H : Type) (enc : TypeId × Value → H) :
    ReturnsInHanded {} Tryd.checked os 3 .any (fun w args => (Rows.deadRestSpec.pre enc Tryd.prog Tryd.f3 [] false w args ∧ laidMetH Tryd.prog laidT w) ∧ sizedMet enc Tryd.prog Tryd.f3 (OpenSpec.ofChange Rows.deadRestSpec) false w args) (Rows.deadRestSpec.post enc Tryd.prog Tryd.f3 false true false false) := by
  refine returnsInHanded_of_change_and (C := Tryd.checked) (X := fun w _ => laidMetH Tryd.prog laidT w) (fun _ _ _ hh h => h.of_heap hh) own started (by kernel_rfl) Tryd.func3
    (ChangeSpec.witness_shaped (enc := enc) (C := Tryd.checked) (os := os) (X := fun w _ => laidMetH Tryd.prog laidT w) false (World.doorLaid Tryd.prog 400 os) #[.agg #[.slice none 0 0, .slice none 0 0, .slice none 0 0]] 8 rfl (World.shaped_of_RefB (by kernel_rfl) (by kernel_rfl)) (by kernel_rfl) (by kernel_rfl) (by kernel_rfl) (door_met os _)) ?_
  intro W base args ds gs before hval hW _ hr hL _
  refine law_contract (ts := [25]) (tb := 4) laidOut (by kernel_rfl) rfl Tryd.underlying4 (by kernel_rfl) (fun ds h => ?_) (fun t ht => ?_)
    (opensAll_cons (ag := true) (by kernel_rfl) opens_unit (fun h => by cases h) opensAll_nil)
    (fun a h => ?_) hval hW hr (of_laid hL)
  · match ds, h with
    | [d0], _ => rfl
  · have : ∀ t ∈ [25], Tryd.prog.readableRec t = true ∧ t < Tryd.prog.types.size := by
      simp only [List.forall_mem_cons]
      refine ⟨⟨by kernel_rfl, of_decide_eq_true (by kernel_rfl)⟩, by simp⟩
    exact this t ht
  · exact deadRest_main a.1 h.1
theorem deadRest_row : Rows.DeadRestSaid :=
  OpenClaim.holds_of_wide 3 Tryd.f3 rfl rfl rfl rfl rfl rfl rfl ⟨rfl, rfl, rfl, rfl, rfl⟩ rfl rfl rfl rfl rfl (by kernel_rfl) Tryd.func3 (by kernel_rfl)
    (of_decide_eq_true (by kernel_rfl)) (by unfold Func.isWrapper; first | (rw [if_pos (by decide +kernel)]; kernel_rfl) | (rw [if_neg (by decide +kernel)]; exact ⟨rfl, rfl⟩))
    (fun os started H enc _ => deadRest_lifted os started H enc)
set_option maxRecDepth 100000 in
theorem deadRest_holds : Rows.DeadRestCardSaid :=
  Claim7.holds_tied_plain_at .later [] [.data] true (true, "b8da0b6d94c79170f3326ac348dec9f8c494314b9b22c81bf5f264d8e5f95cb0") false
    deadRest_row (fun _ h => by cases h) (by kernel_rfl) (fun _ h => by cases h) deadRest_row_tie rfl ⟨rfl, rfl⟩ (by kernel_rfl) rfl
    (fun f fn hf hfn => by
      obtain rfl : f = 3 := Option.some.inj ((show Tryd.prog.funcNamed "stile/stilelaw14.DeadRest" = some 3 by kernel_rfl).symm.trans hf) |>.symm
      obtain rfl : fn = Tryd.f3 := (Option.some.inj (Tryd.func3.symm.trans hfn)).symm
      exact ⟨by kernel_rfl, fun j t ht => by
        rw [show Tryd.f3.params = #[25] by kernel_rfl] at ht
        have hm : t ∈ [25] := by simpa using Array.mem_of_getElem? ht
        have hall : ([25].all fun u => !Tryd.prog.wantsStandIn u) = true := by kernel_rfl
        exact (show Tryd.prog.wantsStandIn t = false by simpa using List.all_eq_true.1 hall t hm)⟩)
    (by kernel_rfl)
end Go.Proofs.YtmonponfppdgfaaDoor
end
