import Derived.Test.YtmonponfppdgfaaDoorM29
import Derived.Test.YtmonponfppdgfaaDoorM33
import Derived.Test.YtmonponfppdgfaaDoorM28
section
/- What stays behind Sweep, in plain data. -/
namespace Go.Proofs.YtmonponfppdgfaaDoor
open Go Go.Abs Go.Proofs
set_option linter.unusedSimpArgs false
set_option linter.unusedVariables false
def visB (cls : List ClassV) (n : Node) : Bool := decide (n.kind = 5 ∨ n.kind = 6 ∨ n.kind = 7) || (decide (n.kind = 2 ∨ n.kind = 3 ∨ n.kind = 4) && decide (0 ≤ n.thing) && decide (n.thing < cls.length) && decide ((cls.getD n.thing.toNat default).kind = 3))
theorem such_at {g : Graph} {cls : List ClassV} {t k : Nat} (hl : k < g.nodes.length) (h : tf (suchL g cls t) k = true) : suchB g cls t k = true := by simpa [tf, suchL, suchTo, List.getD, hl] using h
structure Kept (w v : UnitS) (t : Nat) (idx : List Nat) : Prop where
  len : (v.gr t).nodes.length = idx.length
  name : (v.gr t).name = (w.gr t).name ∧ (v.gr t).locals = (w.gr t).locals ∧ (v.gr t).slots = (w.gr t).slots
  inr : ∀ k, k < idx.length → idx.getD k 0 < (w.gr t).nodes.length
  node : ∀ k, k < idx.length → ∃ nx el, (v.gr t).nd k = { (w.gr t).nd (idx.getD k 0) with next := nx, els := el }
  inj : ∀ a b, a < idx.length → b < idx.length → idx.getD a 0 = idx.getD b 0 → a = b
  rise : ∀ a b, 1 ≤ a → a < b → b < idx.length → idx.getD a 0 < idx.getD b 0
  locks : ∀ lk, LkOk (w.gr t) lk → LkOk (v.gr t) fun k => lk (idx.getD k 0)
  vis : ∀ i : Nat, Come (w.gr t) (-1) (i : Int) → visB (classesU w) ((w.gr t).nd i) = true → ∃ k, k < idx.length ∧ idx.getD k 0 = i ∧ Come (v.gr t) (-1) (k : Int)
structure AllKept (w v : UnitS) : Prop where
  shared : v.shared = w.shared
  locks : v.locks = w.locks
  len : v.graphs.length = w.graphs.length
  kept : ∀ t, t < w.graphs.length → ∃ idx, Kept w v t idx
theorem range_get {n k : Nat} (h : k < n) : (List.range n).getD k 0 = k := by rw [gd (by simpa using h)]; simp
theorem lkOk_same {g : Graph} (hw : Whole g) {a b : Nat → List Int} (h : LkOk g a) (he : ∀ i, i < g.nodes.length → b i = a i) : LkOk g b := by
  refine ⟨by rw [he 0 (by have := hw.1; omega)]; exact h.zero, fun i hi => ?_⟩
  obtain ⟨now, h1, h2⟩ := h.on i hi
  have hin := come_in hw hi
  refine ⟨now, by rw [he _ hin.2]; exact h1, fun k hk => ?_⟩
  have := (hw.2.2 _ hin.2).2.2 k hk
  rw [he _ this.2]; exact h2 k hk
theorem AllKept.start {w : UnitS} (h : RightU w) : AllKept w w := by
  refine ⟨rfl, rfl, rfl, fun t ht => ⟨List.range (w.gr t).nodes.length, by simp, ⟨rfl, rfl, rfl⟩, fun k hk => ?_, fun k hk => ?_, fun a b ha hb e => ?_, fun a b _ hab hb => ?_, fun lk hlk => ?_, fun i hi _ => ?_⟩⟩
  · rw [List.length_range] at hk; rw [range_get hk]; exact hk
  · rw [List.length_range] at hk; rw [range_get hk]; exact ⟨_, _, rfl⟩
  · rw [List.length_range] at ha hb; rw [range_get ha, range_get hb] at e; exact e
  · rw [List.length_range] at hb; rw [range_get hb, range_get (by omega)]; exact hab
  · exact lkOk_same (h.gr ht).whole hlk fun i hi => by show lk ((List.range (w.gr t).nodes.length).getD i 0) = lk i; rw [range_get hi]
  · have := (come_in (h.gr ht).whole hi).2
    rw [Int.toNat_natCast] at this
    exact ⟨i, by simpa using this, range_get this, hi⟩
theorem racy_iff {m : Nat} {tl : List (Nat × List Int)} : (classT m tl).kind = 3 ↔ (∃ a ∈ tl, ∃ b ∈ tl, a.1 ≠ b.1) ∧ ∀ k, k < m → ∃ a ∈ tl, ((k : Nat) : Int) ∉ a.2 := by
  match tl with
  | [] => simp [classT]
  | (t, l) :: r =>
    unfold classT
    dsimp only
    by_cases hs : (r.all fun x => decide (x.1 = t)) = true
    · rw [if_pos hs]
      refine ⟨fun h => absurd (show (1 : Int) = 3 from h) (by decide), fun ⟨⟨a, ha, b, hb, hab⟩, _⟩ => ?_⟩
      rw [List.all_eq_true] at hs
      have key : ∀ x ∈ (t, l) :: r, x.1 = t := fun x hx => by
        rcases List.mem_cons.1 hx with rfl | hx
        · rfl
        · exact of_decide_eq_true (hs x hx)
      exact absurd ((key a ha).trans (key b hb).symm) hab
    · rw [if_neg hs]
      have hex : ∃ a ∈ (t, l) :: r, ∃ b ∈ (t, l) :: r, a.1 ≠ b.1 := by
        rw [List.all_eq_true] at hs
        have ⟨x, hx⟩ := Classical.not_forall.1 hs
        obtain ⟨h1, h2⟩ := Classical.not_imp.1 hx
        exact ⟨x, List.mem_cons_of_mem _ h1, (t, l), by simp, fun e => h2 (decide_eq_true e)⟩
      have hnot : ∀ k : Nat, grdB ((t, l) :: r) k = false ↔ ∃ a ∈ (t, l) :: r, ((k : Nat) : Int) ∉ a.2 := fun k => by
        unfold grdB
        rw [← Bool.not_eq_true, List.all_eq_true]
        constructor
        · intro h
          obtain ⟨x, hx⟩ := Classical.not_forall.1 h
          obtain ⟨h1, h2⟩ := Classical.not_imp.1 hx
          refine ⟨x, h1, fun hm => h2 ?_⟩
          rw [List.any_eq_true]
          exact ⟨_, hm, decide_eq_true rfl⟩
        · rintro ⟨a, ha, hn⟩ h
          have := h a ha
          rw [List.any_eq_true] at this
          obtain ⟨y, hy, e⟩ := this
          rw [of_decide_eq_true e] at hy
          exact hn hy
      cases hf : (List.range m).find? (grdB ((t, l) :: r)) with
      | none =>
        refine ⟨fun _ => ⟨hex, fun k hk => ?_⟩, fun _ => rfl⟩
        have := List.find?_eq_none.1 hf k (List.mem_range.2 hk)
        exact (hnot k).1 (by simpa using this)
      | some k =>
        refine ⟨fun h => absurd (show (2 : Int) = 3 from h) (by decide), fun ⟨_, h⟩ => ?_⟩
        have h1 := List.find?_some hf
        have h2 := List.mem_range.1 (List.mem_of_find?_eq_some hf)
        rw [(hnot k).2 (h k h2)] at h1; cases h1
theorem racy_more {m : Nat} {a b : List (Nat × List Int)} (h : ∀ x ∈ a, x ∈ b) (ha : (classT m a).kind = 3) : (classT m b).kind = 3 := by
  obtain ⟨⟨x, hx, y, hy, hxy⟩, h2⟩ := racy_iff.1 ha
  refine racy_iff.2 ⟨⟨x, h x hx, y, h y hy, hxy⟩, fun k hk => ?_⟩
  obtain ⟨z, hz, hn⟩ := h2 k hk
  exact ⟨z, h z hz, hn⟩
theorem touch_mem {u : UnitS} {v : Int} {t : Nat} {l : List Int} : (t, l) ∈ touchL (accs u u.graphs.length) v ↔ t < u.graphs.length ∧ ∃ i, i < (u.gr t).nodes.length ∧ Come (u.gr t) (-1) (i : Int) ∧ tch ((u.gr t).nd i) = true ∧ ((u.gr t).nd i).thing = v ∧ l = (heldG (u.gr t)).1.getD i [] := by
  unfold touchL accs
  rw [List.mem_map]
  constructor
  · rintro ⟨x, hx, he⟩
    obtain ⟨hx, hb⟩ := List.mem_filter.1 hx
    rw [List.mem_flatMap] at hx
    obtain ⟨t', ht', hx⟩ := hx
    unfold accL at hx
    rw [List.mem_filterMap] at hx
    obtain ⟨i, hi, hx⟩ := hx
    unfold accG at hx
    split at hx
    · rename_i hf
      cases hx
      simp only [Prod.mk.injEq] at he
      obtain ⟨rfl, rfl⟩ := he
      have hi := List.mem_range.1 hi
      rw [Bool.and_eq_true, decide_eq_true_eq] at hb
      exact ⟨List.mem_range.1 ht', i, hi, (fnd_come hi).1 hf, hb.1, hb.2, rfl⟩
    · cases hx
  · rintro ⟨ht, i, hi, hc, h1, h2, rfl⟩
    refine ⟨(t, (u.gr t).nd i, (heldG (u.gr t)).1.getD i []), List.mem_filter.2 ⟨?_, by dsimp only; rw [h1, decide_eq_true h2]; rfl⟩, rfl⟩
    rw [List.mem_flatMap]
    refine ⟨t, List.mem_range.2 ht, ?_⟩
    unfold accL
    rw [List.mem_filterMap]
    refine ⟨i, List.mem_range.2 hi, ?_⟩
    unfold accG
    rw [if_pos ((fnd_come hi).2 hc)]
theorem class_get {u : UnitS} {v : Nat} (h : v < u.shared.length) : (classesU u).getD v default = classT u.locks.length (touchL (accs u u.graphs.length) v) := by
  simp [classesU, List.getD, h]
theorem class_out {u : UnitS} {v : Nat} (h : ¬ v < u.shared.length) : (classesU u).getD v default = default := by
  have : (classesU u).length ≤ v := by simp [classesU]; omega
  rw [List.getD, List.getElem?_eq_none this]; rfl
theorem AllKept.racy {w v : UnitS} (hw : RightU w) (hv : RightU v) (h : AllKept w v) {x : Nat} (hx : ((classesU w).getD x default).kind = 3) : ((classesU v).getD x default).kind = 3 := by
  by_cases hl : x < w.shared.length
  · have hx2 := hx
    rw [class_get hl] at hx
    rw [class_get (by rw [h.shared]; exact hl), h.locks]
    refine racy_more (fun y hy => ?_) hx
    obtain ⟨t, l⟩ := y
    obtain ⟨ht, i, hi, hc, h1, h2, rfl⟩ := touch_mem.1 hy
    obtain ⟨idx, hk⟩ := h.kept t ht
    have hvis : visB (classesU w) ((w.gr t).nd i) = true := by
      unfold visB
      unfold tch at h1
      have a1 : decide (0 ≤ (x : Int)) = true := decide_eq_true (by omega)
      have a2 : decide ((x : Int) < ((classesU w).length : Int)) = true := decide_eq_true (by simp [classesU]; exact hl)
      have a3 : decide (((classesU w).getD x default).kind = 3) = true := decide_eq_true hx2
      rw [h1, h2, a1, a2, Int.toNat_natCast, a3]; simp
    obtain ⟨k, k1, k2, k3⟩ := hk.vis i hc hvis
    obtain ⟨nx, el, hn⟩ := hk.node k k1
    rw [k2] at hn
    have ht2 : t < v.graphs.length := by rw [h.len]; exact ht
    refine touch_mem.2 ⟨ht2, k, by rw [hk.len]; exact k1, k3, by rw [hn]; exact h1, by rw [hn]; exact h2, ?_⟩
    have hgw := hw.gr ht
    have hgv := hv.gr ht2
    obtain ⟨_, _, a1, _⟩ := heldG_ok hgw.whole hgw.held
    obtain ⟨_, _, b1, _⟩ := heldG_ok hgv.whole hgv.held
    have := lkOk_unique (hk.locks _ a1) b1 k k3
    simp only [Int.toNat_natCast, k2] at this
    exact this
  · rw [class_out hl] at hx; exact absurd hx (by decide)
theorem order_rise {u : UnitS} {g : Graph} {out : List Bool} (h : Idl u g out) {a b : Nat} (ha : 1 ≤ a) (hab : a < b) (hb : b < (orderL g out).length) : 1 ≤ (orderL g out).getD a 0 ∧ (orderL g out).getD a 0 < (orderL g out).getD b 0 := by
  obtain ⟨a, rfl⟩ : ∃ a', a = a' + 1 := ⟨a - 1, by omega⟩
  obtain ⟨b, rfl⟩ : ∃ b', b = b' + 1 := ⟨b - 1, by omega⟩
  unfold orderL at hb ⊢
  rw [List.getD_cons_succ, List.getD_cons_succ]
  rw [List.length_cons] at hb
  generalize hL : (List.range g.nodes.length).filter (fun (i : Nat) => fnd (reachL g (-1)) (i : Int) && !tf out i && decide (i ≠ heir out g 0)) = L at *
  have hp : L.Pairwise (· < ·) := by rw [← hL]; exact List.pairwise_lt_range.filter _
  have hm : ∀ x ∈ L, 1 ≤ x := fun x hx => by
    rw [← hL] at hx
    have := (List.mem_filter.1 hx).2
    simp only [Bool.and_eq_true, Bool.not_eq_true', decide_eq_true_eq] at this
    rcases Nat.eq_zero_or_pos x with rfl | h0
    · exact absurd (heir_self this.1.2).symm this.2
    · exact h0
  have h1 : a < L.length := by omega
  have h2 : b < L.length := by omega
  rw [gd h1, gd h2]
  exact ⟨hm _ (List.getElem_mem h1), List.pairwise_iff_getElem.1 hp a b h1 h2 (by omega)⟩
theorem AllKept.once {w v : UnitS} (hw : RightU w) (hv : RightU v) (h : AllKept w v) : AllKept w (onceU v) := by
  refine ⟨h.shared, h.locks, (onceU_len v).trans h.len, fun t ht => ?_⟩
  have ht2 : t < v.graphs.length := by rw [h.len]; exact ht
  obtain ⟨idx, hk⟩ := h.kept t ht
  have hi := idl_of (hv.gr ht2) (classesU v) t
  have hgr : (onceU v).gr t = ordG (v.gr t) (idleL (v.gr t) (classesU v) t) := onceU_gr ht2
  have hnot : ∀ k, k < idx.length → visB (classesU w) ((w.gr t).nd (idx.getD k 0)) = true → tf (idleL (v.gr t) (classesU v) t) k = false := fun k hkl hvs => by
    cases hb : tf (idleL (v.gr t) (classesU v) t) k with
    | false => rfl
    | true =>
      exfalso
      have h1 := (idleOf_get.1 hb).1
      have hl : k < (v.gr t).nodes.length := by rw [hk.len]; exact hkl
      have hs := such_at hl h1
      obtain ⟨nx, el, hn⟩ := hk.node k hkl
      have e1 : ((v.gr t).nd k).kind = ((w.gr t).nd (idx.getD k 0)).kind := by rw [hn]
      have e2 : ((v.gr t).nd k).thing = ((w.gr t).nd (idx.getD k 0)).thing := by rw [hn]
      unfold visB at hvs
      rw [← e1, ← e2] at hvs
      unfold suchB at hs
      dsimp only at hs
      generalize (v.gr t).nd k = n at *
      simp only [Bool.or_eq_true, Bool.and_eq_true, decide_eq_true_eq] at hvs
      rw [Bool.and_eq_true] at hs
      rcases hvs with hvs | ⟨⟨⟨hvs, h0⟩, _⟩, h3⟩
      · have hs := hs.2
        rw [if_neg (by omega), if_neg (by omega), if_neg (by omega), if_neg (by omega)] at hs
        cases hs
      · have hr := h.racy hw hv h3
        have hs := hs.2
        rw [if_neg (by omega)] at hs
        by_cases k2 : n.kind = 2
        · rw [if_pos k2, decide_eq_false (by rw [hr]; simp)] at hs
          cases hs
        · rw [if_neg k2] at hs
          by_cases k3 : n.kind = 3
          · rw [if_pos k3] at hs
            unfold ownB at hs
            rw [hr] at hs
            cases hs
          · rw [if_neg k3, if_neg (by omega)] at hs
            cases hs
  generalize idleL (v.gr t) (classesU v) t = out at *
  have hol : ((orderL (v.gr t) out).map fun p => idx.getD p 0).length = (orderL (v.gr t) out).length := by simp
  have hget : ∀ k, k < (orderL (v.gr t) out).length → ((orderL (v.gr t) out).map fun p => idx.getD p 0).getD k 0 = idx.getD ((orderL (v.gr t) out).getD k 0) 0 := fun k hkl => by
    rw [gd hkl, gd (by simpa using hkl)]; simp
  have hlt : ∀ k, k < (orderL (v.gr t) out).length → (orderL (v.gr t) out).getD k 0 < idx.length := fun k hkl => by
    rw [← hk.len]
    refine hi.lt ?_
    rw [gd hkl]; exact List.getElem_mem hkl
  refine ⟨(orderL (v.gr t) out).map fun p => idx.getD p 0, ?_, ?_, fun k hkl => ?_, fun k hkl => ?_, fun a b ha hb e => ?_, fun a b h1 hab hb => ?_, fun lk hlk => ?_, fun i hc hvs => ?_⟩
  · rw [hgr, ordG_len, hol]
  · rw [hgr]; exact hk.name
  · rw [hol] at hkl
    rw [hget k hkl]; exact hk.inr _ (hlt k hkl)
  · rw [hol] at hkl
    rw [hget k hkl, hgr, ordG_nd hkl]
    obtain ⟨nx, el, hn⟩ := hk.node _ (hlt k hkl)
    unfold reNode
    rw [hn]
    exact ⟨_, _, rfl⟩
  · rw [hol] at ha hb
    rw [hget a ha, hget b hb] at e
    exact nodup_inj (order_nodup _ _) ha hb (hk.inj _ _ (hlt a ha) (hlt b hb) e)
  · rw [hol] at hb
    rw [hget a (by omega), hget b hb]
    obtain ⟨q1, q2⟩ := order_rise hi h1 hab hb
    exact hk.rise _ _ q1 q2 (hlt b hb)
  · rw [hgr]
    refine lkOk_same hi.whole (hi.held (hk.locks lk hlk)) fun i hil => ?_
    rw [ordG_len] at hil
    show lk (((orderL (v.gr t) out).map fun p => idx.getD p 0).getD i 0) = lk (idx.getD ((orderL (v.gr t) out).getD i 0) 0)
    rw [hget i hil]
  · obtain ⟨k, k1, k2, k3⟩ := hk.vis i hc hvs
    have hm : k ∈ orderL (v.gr t) out := hi.mem.2 ⟨k3, hnot k k1 (by rw [k2]; exact hvs)⟩
    obtain ⟨p1, p2⟩ := place_in hm
    refine ⟨placeN (orderL (v.gr t) out) k, by rw [hol]; exact p1, by rw [hget _ p1, p2]; exact k2, ?_⟩
    rw [hgr]; exact ordG_all hi p1
theorem kept_sweep {w : UnitS} (hw : RightU w) : AllKept w (sweepU w) := (sweep_ind (P := AllKept w) hw (AllKept.start hw) fun v hv h => h.once hw hv).2
end Go.Proofs.YtmonponfppdgfaaDoor
end
section
/- What the laws ask first: the walk. -/
namespace Go.Proofs.YtmonponfppdgfaaDoor
open Go Go.Abs Go.Proofs
set_option linter.unusedSimpArgs false
set_option linter.unusedVariables false
instance decWf64 (n : Int) : Decidable (wf64 n) := inferInstanceAs (Decidable (_ ∧ _))
def twA : Node := ⟨1, 0, 0, 0, ⟨false, 0, 1⟩, default, 1, 0, 0⟩
def twB : Node := ⟨1, 0, 0, 0, ⟨false, 0, 2⟩, default, 2, 0, 1⟩
def twC : Node := ⟨7, 0, 0, 0, ⟨true, 0, 0⟩, default, 3, 0, 2⟩
def twD : Node := ⟨9, 0, 0, 0, default, default, 0, 0, 3⟩
def tw0 : Graph := ⟨⟨(List.toArray [97])⟩, 0, 1, [twA, twB, twC, twD]⟩
def tw1 : Graph := ⟨⟨(List.toArray [97])⟩, 0, 1, [{ twB with next := 1 }, { twC with next := 2 }, twD]⟩
def twU : UnitS := ⟨[], [], [tw0]⟩
def twV : UnitS := ⟨[], [], [tw1]⟩
theorem twU_right : RightU twU := ⟨by decide +kernel, fun g hg => by
  simp only [twU, List.mem_cons, List.not_mem_nil, or_false] at hg
  subst hg
  exact graphF_none.1 (by decide +kernel)⟩
theorem twV_right : RightU twV := ⟨by decide +kernel, fun g hg => by
  simp only [twV, List.mem_cons, List.not_mem_nil, or_false] at hg
  subst hg
  exact graphF_none.1 (by decide +kernel)⟩
theorem reach_all {g : Graph} (h : ∀ i, i < g.nodes.length → Come g (-1) (i : Int)) : reachL g (-1) = List.replicate g.nodes.length true := by
  apply List.ext_getElem (by rw [reachL_len, List.length_replicate])
  intro i h1 h2
  have hi : i < g.nodes.length := by rw [← reachL_len g (-1)]; exact h1
  have e2 : (reachL g (-1))[i] = (reachL g (-1)).getD i false := by simp [List.getD, h1]
  rw [e2, (reachL_get g (-1) hi).2 (h i hi)]; simp
theorem reach_tw0 : reachL tw0 (-1) = [true, true, true, true] := by
  have c0 : Come tw0 (-1) 0 := .zero
  have c1 : Come tw0 (-1) 1 := .step c0 (by decide) (by decide)
  have c2 : Come tw0 (-1) 2 := .step c1 (by decide) (by decide)
  have c3 : Come tw0 (-1) 3 := .step c2 (by decide) (by decide)
  exact reach_all (g := tw0) fun i hi => match i, hi with
    | 0, _ => c0
    | 1, _ => c1
    | 2, _ => c2
    | 3, _ => c3
theorem reach_tw1 : reachL tw1 (-1) = [true, true, true] := by
  have c0 : Come tw1 (-1) 0 := .zero
  have c1 : Come tw1 (-1) 1 := .step c0 (by decide) (by decide)
  have c2 : Come tw1 (-1) 2 := .step c1 (by decide) (by decide)
  exact reach_all (g := tw1) fun i hi => match i, hi with
    | 0, _ => c0
    | 1, _ => c1
    | 2, _ => c2
theorem live_tw0 : liveT tw0 = [[false], [false], [true], [false]] := by
  have hw : Whole tw0 := (twU_right.graphs tw0 (by simp [twU])).whole
  refine (Grow.fin hw (T := [[false], [false], [true], [false]]) ⟨⟨rfl, by decide +kernel⟩, fun i k h => ?_⟩ (fun i k hi hk => (by decide +kernel : ∀ i, i < tw0.nodes.length → ∀ k, k < tw0.slots.toNat → cellB tw0 readsB keepsB [[false], [false], [true], [false]] i k = true → tget [[false], [false], [true], [false]] i k = true) i hi k hk)).symm
  match i, k, h with
  | 2, 0, _ => exact .beg (by decide +kernel)
  | 0, 0, h => exact absurd h (by decide)
  | 1, 0, h => exact absurd h (by decide)
  | 3, 0, h => exact absurd h (by decide)
  | 0, k + 1, h => exact absurd h (by simp [tget])
  | 1, k + 1, h => exact absurd h (by simp [tget])
  | 2, k + 1, h => exact absurd h (by simp [tget])
  | 3, k + 1, h => exact absurd h (by simp [tget])
  | i + 4, k, h => exact absurd h (by simp [tget])
theorem live_tw1 : liveT tw1 = [[false], [true], [false]] := by
  have hw : Whole tw1 := (twV_right.graphs tw1 (by simp [twV])).whole
  refine (Grow.fin hw (T := [[false], [true], [false]]) ⟨⟨rfl, by decide +kernel⟩, fun i k h => ?_⟩ (fun i k hi hk => (by decide +kernel : ∀ i, i < tw1.nodes.length → ∀ k, k < tw1.slots.toNat → cellB tw1 readsB keepsB [[false], [true], [false]] i k = true → tget [[false], [true], [false]] i k = true) i hi k hk)).symm
  match i, k, h with
  | 1, 0, _ => exact .beg (by decide +kernel)
  | 0, 0, h => exact absurd h (by decide)
  | 2, 0, h => exact absurd h (by decide)
  | 0, k + 1, h => exact absurd h (by simp [tget])
  | 1, k + 1, h => exact absurd h (by simp [tget])
  | 2, k + 1, h => exact absurd h (by simp [tget])
  | i + 3, k, h => exact absurd h (by simp [tget])
theorem idle_none {l : List Bool} {g : Graph} (h : ∀ i, tf l i = false) : idleOf l g = List.replicate l.length false := by
  apply List.ext_getElem (by rw [idleOf_len, List.length_replicate])
  intro i h1 h2
  have e : (idleOf l g)[i] = tf (idleOf l g) i := by simp [tf, List.getD, h1]
  rw [e]
  cases hb : tf (idleOf l g) i with
  | false => simp
  | true => have := (idleOf_get.1 hb).1; rw [h i] at this; cases this
theorem such_tw0 : suchL tw0 [] 0 = [true, false, false, false] := by
  have e0 : suchB tw0 [] 0 0 = true := by unfold suchB; rw [reach_tw0, live_tw0]; rfl
  have e1 : suchB tw0 [] 0 1 = false := by unfold suchB; rw [reach_tw0, live_tw0]; rfl
  have e2 : suchB tw0 [] 0 2 = false := by unfold suchB; rw [reach_tw0, live_tw0]; rfl
  have e3 : suchB tw0 [] 0 3 = false := by unfold suchB; rw [reach_tw0, live_tw0]; rfl
  show [suchB tw0 [] 0 0, suchB tw0 [] 0 1, suchB tw0 [] 0 2, suchB tw0 [] 0 3] = _
  rw [e0, e1, e2, e3]
theorem idle_tw0 : idleL tw0 [] 0 = [true, false, false, false] := by
  unfold idleL
  rw [such_tw0]
  have hn : ¬ Ret [true, false, false, false] tw0 0 := by
    rintro ⟨p, h1, h2, h3⟩
    by_cases e : p = 1
    · subst e; exact absurd h2 (by decide)
    · exact absurd (h3 1 (by omega)) (by decide)
  have key : ∀ i, tf (idleOf [true, false, false, false] tw0) i = tf [true, false, false, false] i := fun i => by
    rw [Bool.eq_iff_iff, idleOf_get]
    refine ⟨fun h => h.1, fun h => ⟨h, ?_⟩⟩
    match i, h with
    | 0, _ => exact hn
    | 1, h => exact absurd h (by decide)
    | 2, h => exact absurd h (by decide)
    | 3, h => exact absurd h (by decide)
    | i + 4, h => exact absurd h (by simp [tf])
  exact list_eq false (by rw [idleOf_len]) fun j _ => key j
theorem once_tw0 : onceG tw0 [] 0 = tw1 := by
  have ho : orderL tw0 [true, false, false, false] = [1, 2, 3] := by unfold orderL; rw [reach_tw0]; decide +kernel
  unfold onceG
  rw [idle_tw0, ho]
  decide +kernel
theorem such_tw1 : suchL tw1 [] 0 = [false, false, false] := by
  have e0 : suchB tw1 [] 0 0 = false := by unfold suchB; rw [reach_tw1, live_tw1]; rfl
  have e1 : suchB tw1 [] 0 1 = false := by unfold suchB; rw [reach_tw1, live_tw1]; rfl
  have e2 : suchB tw1 [] 0 2 = false := by unfold suchB; rw [reach_tw1, live_tw1]; rfl
  show [suchB tw1 [] 0 0, suchB tw1 [] 0 1, suchB tw1 [] 0 2] = _
  rw [e0, e1, e2]
theorem once_tw1 : onceG tw1 [] 0 = tw1 := by
  have hi : idleL tw1 [] 0 = [false, false, false] := by
    unfold idleL
    rw [such_tw1]
    refine idle_none fun i => ?_
    match i with
    | 0 => rfl
    | 1 => rfl
    | 2 => rfl
    | i + 3 => simp [tf]
  have ho : orderL tw1 [false, false, false] = [0, 1, 2] := by unfold orderL; rw [reach_tw1]; decide +kernel
  unfold onceG
  rw [hi, ho]
  decide +kernel
theorem onceU_tw : onceU twU = twV := by
  show ({ twU with graphs := [onceG tw0 [] 0] } : UnitS) = twV
  rw [once_tw0]; rfl
theorem onceV_tw : onceU twV = twV := by
  show ({ twV with graphs := [onceG tw1 [] 0] } : UnitS) = twV
  rw [once_tw1]; rfl
theorem sweep_tw : sweepU twU = twV := by
  rw [sweepU_eq twU_right, onceU_tw]
  exact sweep_stop twV_right onceV_tw
theorem tw_wf : twU.Wf := by
  refine ⟨fun _ h => by simp [twU] at h, by simp [twU], fun _ h => by simp [twU] at h, by simp [twU], fun g hg => ?_, by simp [twU]⟩
  simp only [twU, List.mem_cons, List.not_mem_nil, or_false] at hg
  subst hg
  refine ⟨by decide +kernel, by decide +kernel, by decide +kernel, fun n hn => ?_, by decide +kernel⟩
  simp only [tw0, List.mem_cons, List.not_mem_nil, or_false] at hn
  rcases hn with rfl | rfl | rfl | rfl <;> exact ⟨by decide +kernel, by decide +kernel, by decide +kernel, by decide +kernel, ⟨by decide +kernel, by decide +kernel⟩, ⟨by decide +kernel, by decide +kernel⟩, by decide +kernel, by decide +kernel, by decide +kernel⟩
theorem bools_pure (l m : List Bool) (hl : l.length ≤ 4096) (hm : m.length ≤ 4096) : Pure Tryd.prog 22 [imB l, imB m] (fun r => r = bl (decide (l = m))) := by
  refine Go.pureL lf22 rfl ?_
  unfold imB
  repeat' (first | ((with_reducible refine Go.red ?_); conv => whnf) | refine aG ?_ | exact aC | with_reducible refine Go.and ?_ ?_ | (apply Go.elem; (· exact aElem)) | refine aH ?_ | ((with_reducible refine Go.bool ?_ ?_) <;> intro hc <;> (try simp only [List.length_map, ne_eq, hcs] at hc) <;> try (exfalso; omega)))
  · refine bl_eq (Eq.symm ?_)
    exact decide_eq_false fun e => hc (by rw [e])
  · have hlm : l.length = m.length := by omega
    refine Go.loop (fun i : Nat => [(0, imB l), (1, imB m), (5, i64 i)])
      (fun i H n => i ≤ l.length ∧ ∀ j, j < i → l.getD j false = m.getD j false) (fun i => l.length - i) 0 aLess ⟨Nat.zero_le _, fun _ h => by omega⟩ ?_
    unfold imB
    rintro i H n ⟨hi, hall⟩
    by_cases hil : i < l.length
    · have e1 := fun d => bl_at (l := l) hil d
      have e2 := fun d => bl_at (l := m) (k := i) (by omega) d
      repeat' (first | ((with_reducible refine Go.red ?_); conv => whnf) | refine aG ?_ | exact aC | with_reducible refine Go.and ?_ ?_ | (apply Go.elem; (· (first | exact e1 _ | exact e2 _ | exact aElem))) | refine aH ?_ | ((with_reducible refine Go.bool ?_ ?_) <;> intro hc <;> (try simp only [List.length_map, ne_eq, hcs] at hc) <;> try (exfalso; omega)))
      · refine bl_eq (Eq.symm ?_)
        refine decide_eq_false fun e => ?_
        rw [e] at hc
        simp at hc
      · refine ⟨i + 1, by omega, aLess, by omega, fun j hj => ?_⟩
        by_cases hji : j = i
        · subst hji; simpa using hc
        · exact hall j (by omega)
    · have : i = l.length := by omega
      subst this
      repeat' (first | ((with_reducible refine Go.red ?_); conv => whnf) | refine aG ?_ | exact aC | with_reducible refine Go.and ?_ ?_ | (apply Go.elem; (· exact aElem)) | refine aH ?_ | ((with_reducible refine Go.bool ?_ ?_) <;> intro hc <;> (try simp only [List.length_map, ne_eq, hcs] at hc) <;> try (exfalso; omega)))
      refine bl_eq (Eq.symm ?_)
      exact decide_eq_true (list_eq false hlm hall)
theorem twice_pure : Pure Tryd.prog 21 [] (fun r => r = twU.av) := by
  have h : Pure Tryd.prog 21 [] (fun r => r = .agg [.sc (.slice none 0 0), .sc (.slice none 0 0), graphsAv [tw0]]) := by
    refine pure_of_call ?_ (by rw [fitA, fitL, fitL, fitL, fitL]; exact ⟨by simp [fitA], by simp [fitA], by rw [fitA]; exact fit_graphs _, trivial⟩)
    refine Go.fnL lf21 rfl ?_
    repeat' (first | ((with_reducible refine Go.red ?_); conv => whnf) | refine aG ?_ | exact aC | with_reducible refine Go.and ?_ ?_ | (apply Go.elem; (· exact aElem)) | refine aH ?_ | ((with_reducible refine Go.bool ?_ ?_) <;> intro hc <;> (try simp only [List.length_map, ne_eq, hcs] at hc) <;> try (exfalso; omega)))
    exact ⟨by kernel_rfl⟩
  refine pure_le (u := .agg [.sc (.slice none 0 0), .sc (.slice none 0 0), graphsAv [tw0]]) (h.mono fun r hr => .inl hr) (fit_unitAv _) fun c => ?_
  refine Abs.AVle.agg (.cons ?_ (.cons ?_ (.cons (fun _ h => h) .nil)))
  · exact Abs.AVle.nilIm c c 3 .any
  · exact Abs.AVle.nilIm c c 3 .any
theorem bools_look (l m : List Bool) (hl : l.length ≤ 4096) (hm : m.length ≤ 4096) {b : Nat} {H : Hp} {nx : Nat} {e : TypeId} {d : AV} (hb : getH H b = some (.row e 1 d (m.map bl))) : Look Tryd.prog 22 [imB l, .sl b m.length] H nx (bl (decide (l = m))) := by
  refine Pure.view (args2 := [imB l, imB m]) (bools_pure l m hl hm) ?_ (by simp [fitL, fitA, imB, fitL_map]) trivial ⟨rfl, fun _ _ => rfl⟩
  rw [List.map_cons, List.map_cons, List.map_nil, frz_fit 6 (by simp [fitA, imB, fitL_map]), frz_sl hb (by simp), frz_same _ (fit_bools _ _)]
  rfl
theorem bools_tw {b : Nat} {H : Hp} {nx : Nat} {e : TypeId} {d : AV} (hb : getH H b = some (.row e 1 d [bl true, bl false, bl false, bl false])) : Look Tryd.prog 22 [imB [true, false, false, false], .sl b 4] H nx (bl true) :=
  bools_look [true, false, false, false] [true, false, false, false] (by decide) (by decide) hb
set_option maxHeartbeats 4000000 in
theorem begins_pure : Pure Tryd.prog 6 [] (fun r => r = bl true) := by
  have hcl : classesU twU = [] := rfl
  have h1 : Pure Tryd.prog 20 [twU.av, i64 0] (fun r => r = .tup [imB [true, false, false, false], i64 0]) := by
    have := Idle_pure twU tw_wf 0
    unfold listAv at this
    rw [if_pos (rightB_iff.2 twU_right), if_neg (by decide), hcl, show twU.gr (0 : Int).toNat = tw0 from rfl, show (0 : Int).toNat = 0 from rfl, idle_tw0] at this
    exact this
  have h2 : Pure Tryd.prog 8 [twU.av] (fun r => r = .tup [twV.av, i64 0]) := by
    have := Sweep_right twU tw_wf twU_right
    rw [sweep_tw] at this
    exact this
  have h3 : Pure Tryd.prog 11 [twU.av, i64 0] (fun r => r = .tup [.im 1 .any ([[false], [false], [true], [false]].map imB), i64 0]) := by
    have := Live_pure twU tw_wf 0
    unfold tabAv at this
    rw [if_pos (rightB_iff.2 twU_right), if_neg (by decide), show twU.gr (0 : Int).toNat = tw0 from rfl, live_tw0] at this
    exact this
  have h0 := twice_pure
  refine Go.pureL lf6 rfl ?_
  repeat' (first | ((with_reducible refine Go.red ?_); conv => whnf) | refine aG ?_ | exact aCn | with_reducible refine Go.and ?_ ?_ | ((with_reducible refine Ask.mk ?_); first | exact aAsk | exact aAsk2 | (intro h; simp_all [UnitS.cells, Graph.cells, Node.cells] <;> fail) | (simp_all [UnitS.cells, Graph.cells, Node.cells] <;> fail)) | (apply Go.elem; (· (first | exact rfl | exact aElem))) | refine aK (h0) ?_ | refine aK (h1) ?_ | refine aK (h2) ?_ | refine aK (h3) ?_ | ((refine Go.lookW (bools_tw (by exact aRow)) ?_ ?_); (· exact True.intro)) | ((refine Go.lookJ (fun _ => bools_tw (by exact aRow)) ?_ ?_); (· exact True.intro)) | refine aH ?_ | ((with_reducible refine Go.bool ?_ ?_) <;> intro hc <;> (try simp only [List.length_map, ne_eq, hcs] at hc) <;> try (exfalso; omega)))
  all_goals first | exact ⟨⟨by decide +kernel, by decide +kernel⟩⟩ | exact rfl
end Go.Proofs.YtmonponfppdgfaaDoor
end
section
/- Units held one against another by the document; calm threads: the walk. -/
namespace Go.Proofs.YtmonponfppdgfaaDoor
open Go Go.Abs Go.Proofs
set_option linter.unusedSimpArgs false
set_option linter.unusedVariables false
theorem bneB (a b : ByteArray) : (a != b) = !decide (a = b) := by rw [bne, beqB]
theorem rdecls_pure (l m : List Decl) (hl : l.length * 32 ≤ 140737488351232) (hm : m.length * 32 ≤ 140737488351232) : Pure Tryd.prog 17 [declsAv l, declsAv m] (fun r => r = bl (decide (l = m))) := by
  refine Go.pureL lf17 rfl ?_
  repeat' (first | ((with_reducible refine Go.red ?_); conv => whnf) | refine aG ?_ | exact aC | with_reducible refine Go.and ?_ ?_ | (apply Go.elem; (· exact aElem)) | refine aH ?_ | ((with_reducible refine Go.bool ?_ ?_) <;> intro hc <;> (try simp only [List.length_map, ne_eq, hcs] at hc) <;> try (exfalso; omega)))
  · refine bl_eq (Eq.symm ?_)
    exact decide_eq_false fun e => hc (by rw [e])
  · have hlm : l.length = m.length := by omega
    refine Go.loop (fun i : Nat => [(0, declsAv l), (1, declsAv m), (5, i64 i)])
      (fun i H n => i ≤ l.length ∧ ∀ j, j < i → l.getD j default = m.getD j default) (fun i => l.length - i) 0 aLess ⟨Nat.zero_le _, fun _ h => by omega⟩ ?_
    rintro i H n ⟨hi, hall⟩
    by_cases hil : i < l.length
    · have e1 := fun d => dec_at (l := l) hil d
      have e2 := fun d => dec_at (l := m) (i := i) (by omega) d
      repeat' (first | ((with_reducible refine Go.red ?_); conv => whnf) | refine aG ?_ | exact aCn | with_reducible refine Go.and ?_ ?_ | ((with_reducible refine Ask.mk ?_); first | exact aAsk | exact aAsk2 | (intro h; simp_all [Decl.cells] <;> fail) | (simp_all [Decl.cells] <;> fail)) | (apply Go.elem; (· (first | exact e1 _ | exact e2 _ | exact aElem))) | refine aH ?_ | ((with_reducible refine Go.bool ?_ ?_) <;> intro hc <;> (try simp only [List.length_map, ne_eq, hcs] at hc) <;> try (exfalso; omega)))
      · refine bl_eq (Eq.symm ?_)
        refine decide_eq_false fun e => ?_
        rw [e] at hc
        simp [beqB] at hc
      · refine ⟨i + 1, by omega, aLess, by omega, fun j hj => ?_⟩
        by_cases hji : j = i
        · subst hji
          obtain ⟨h1, h2, h3, _⟩ := hc
          rw [beqB, decide_eq_true_eq] at h1
          exact Decl.ext3 h1 h2 h3
        · exact hall j (by omega)
    · have : i = l.length := by omega
      subst this
      repeat' (first | ((with_reducible refine Go.red ?_); conv => whnf) | refine aG ?_ | exact aC | with_reducible refine Go.and ?_ ?_ | (apply Go.elem; (· exact aElem)) | refine aH ?_ | ((with_reducible refine Go.bool ?_ ?_) <;> intro hc <;> (try simp only [List.length_map, ne_eq, hcs] at hc) <;> try (exfalso; omega)))
      refine bl_eq (Eq.symm ?_)
      exact decide_eq_true (list_eq default hlm hall)
end Go.Proofs.YtmonponfppdgfaaDoor
end
section
/- What is reached, by the document: the walk. -/
namespace Go.Proofs.YtmonponfppdgfaaDoor
open Go Go.Abs Go.Proofs
set_option linter.unusedSimpArgs false
set_option linter.unusedVariables false
set_option maxRecDepth 4000 in
set_option maxHeartbeats 4000000 in
theorem rwhole_pure (g : Graph) (hg : g.Wf) (hw : Whole g) : Pure Tryd.prog 37 [g.av] (fun r => r = bl true) := by
  have hl := hg.len
  have hl0 := hw.1
  have hl1 := hw.2.1
  refine Go.pureL lf37 rfl ?_
  repeat' (first | ((with_reducible refine Go.red ?_); conv => whnf) | refine aG ?_ | exact aCn | with_reducible refine Go.and ?_ ?_ | ((with_reducible refine Ask.mk ?_); first | exact aAsk | exact aAsk2 | (intro h; simp_all [Graph.cells] <;> fail) | (simp_all [Graph.cells] <;> fail)) | (apply Go.elem; (· exact aElem)) | refine aH ?_ | ((with_reducible refine Go.bool ?_ ?_) <;> intro hc <;> (try simp only [List.length_map, ne_eq, hcs] at hc) <;> try (exfalso; omega)))
  refine Go.loop (fun i : Nat => [(1, .pt 0 1 0 0), (3, i64 i)])
    (fun i H n => i ≤ g.nodes.length ∧ 1 ≤ n ∧ ∃ d, getH H 0 = some (.row 33 4 d [g.av])) (fun i => g.nodes.length - i) 0 aLess ⟨Nat.zero_le _, aNx, ⟨_, aRow⟩⟩ ?_
  rintro i H n ⟨hi, hn, ⟨d0, r0⟩⟩
  by_cases hil : i < g.nodes.length
  · have en := fun d => nd_at (l := g.nodes) hil d
    obtain ⟨k1, k2, k3⟩ := hw.2.2 i hil
    have k1 : 1 ≤ (g.nodes.getD i default).kind := k1
    have k2 : (g.nodes.getD i default).kind < 10 := k2
    have hf := rfollows_pure (g.nd i)
    have hfl := fol_len (g.nd i)
    unfold imF at hf
    repeat' (first | ((with_reducible refine Go.red ?_); conv => whnf) | refine aG ?_ | exact aCn | with_reducible refine Go.and ?_ ?_ | ((with_reducible refine Ask.mk ?_); first | exact aAsk | exact aAsk2 | (intro h; simp_all [Graph.cells, Node.cells] <;> fail) | (simp_all [Graph.cells, Node.cells] <;> fail)) | (apply Go.elem; (· (first | exact en _ | exact aElem))) | refine aK (hf) ?_ | refine aH ?_ | ((with_reducible refine Go.bool ?_ ?_) <;> intro hc <;> (try simp only [List.length_map, ne_eq, hcs] at hc) <;> try (exfalso; omega)))
    clear hf
    refine Go.loop (fun j : Nat => [(1, .pt 0 1 0 0), (3, i64 i), (5, .im 1 .any ((g.nd i).fol.map i64)), (6, i64 j)])
      (fun j H2 n2 => j ≤ (g.nd i).fol.length ∧ n ≤ n2 ∧ ∃ d, getH H2 0 = some (.row 33 4 d [g.av])) (fun j => (g.nd i).fol.length - j) 0 aLess ⟨Nat.zero_le _, aNx, ⟨_, aRow⟩⟩ ?_
    rintro j H2 n2 ⟨hj, hn2, ⟨d02, r02⟩⟩
    by_cases hjl : j < (g.nd i).fol.length
    · have ej := fun d => int_at (l := (g.nd i).fol) hjl d
      have hk := k3 _ (getD_mem' (0 : Int) hjl)
      generalize (g.nd i).fol.getD j 0 = y at *
      repeat' (first | ((with_reducible refine Go.red ?_); conv => whnf) | refine aG ?_ | exact aCn | with_reducible refine Go.and ?_ ?_ | ((with_reducible refine Ask.mk ?_); first | exact aAsk | exact aAsk2 | (intro h; simp_all [Graph.cells] <;> fail) | (simp_all [Graph.cells] <;> fail)) | (apply Go.elem; (· (first | exact ej _ | exact aElem))) | refine aH ?_ | ((with_reducible refine Go.bool ?_ ?_) <;> intro hc <;> (try simp only [List.length_map, ne_eq, hcs] at hc) <;> try (exfalso; omega)))
      exact ⟨j + 1, by omega, aLess, by omega, aNx, ⟨_, aRow⟩⟩
    · have : j = (g.nd i).fol.length := by omega
      subst this
      repeat' (first | ((with_reducible refine Go.red ?_); conv => whnf) | refine aG ?_ | exact aCn | with_reducible refine Go.and ?_ ?_ | ((with_reducible refine Ask.mk ?_); first | exact aAsk | exact aAsk2 | (intro h; simp_all [Graph.cells] <;> fail) | (simp_all [Graph.cells] <;> fail)) | (apply Go.elem; (· exact aElem)) | refine aH ?_ | ((with_reducible refine Go.bool ?_ ?_) <;> intro hc <;> (try simp only [List.length_map, ne_eq, hcs] at hc) <;> try (exfalso; omega)))
      exact ⟨i + 1, by omega, aLess, by omega, aNx, ⟨_, aRow⟩⟩
  · have : i = g.nodes.length := by omega
    subst this
    repeat' (first | ((with_reducible refine Go.red ?_); conv => whnf) | refine aG ?_ | exact aCn | with_reducible refine Go.and ?_ ?_ | ((with_reducible refine Ask.mk ?_); first | exact aAsk | exact aAsk2 | (intro h; simp_all [Graph.cells] <;> fail) | (simp_all [Graph.cells] <;> fail)) | (apply Go.elem; (· exact aElem)) | refine aH ?_ | ((with_reducible refine Go.bool ?_ ?_) <;> intro hc <;> (try simp only [List.length_map, ne_eq, hcs] at hc) <;> try (exfalso; omega)))
    exact rfl
set_option maxRecDepth 4000 in
set_option maxHeartbeats 4000000 in
theorem rwithout_pure (g : Graph) (hg : g.Wf) (hw : Whole g) : Pure Tryd.prog 38 [g.av, i64 (-1)] (fun r => r = imB (reachL g (-1))) := by
  have hl := hg.len
  have hl0 := hw.1
  have hl1 := hw.2.1
  have hrep : ∀ d, (List.replicate (((List.map Node.av g.nodes).length : Nat) : Int).toNat (zav false [Value.bool false])).getD (Int.toNat 0) d = bl false := fun d => by
    rw [Int.toNat_natCast, show Int.toNat 0 = 0 from rfl, List.length_map, List.getD, List.getElem?_replicate, if_pos (by omega)]; rfl
  refine pure_of_call ?_ (by simp [imB, fitA, fitL_map])
  refine Go.fnL lf38 rfl ?_
  repeat' (first | ((with_reducible refine Go.red ?_); conv => whnf) | refine aG ?_ | exact aCn | with_reducible refine Go.and ?_ ?_ | ((with_reducible refine Ask.mk ?_); first | exact aAsk | exact aAsk2 | (intro h; simp_all [Graph.cells] <;> fail) | (simp_all [Graph.cells] <;> fail)) | (apply Go.elem; (· (first | exact hrep _ | exact aElem))) | refine aH ?_ | ((with_reducible refine Go.bool ?_ ?_) <;> intro hc <;> (try simp only [List.length_map, ne_eq, hcs] at hc) <;> try (exfalso; omega)))
  simp only [List.length_map, Int.toNat_natCast]
  have hst : (List.replicate g.nodes.length (zav false [Value.bool false])).set (Int.toNat 0) (AV.sc (Value.bool true)) = ((List.replicate g.nodes.length false).set 0 true).map bl := by
    rw [List.map_set, List.map_replicate]; rfl
  refine Go.loop (fun σ : Nat × List Bool × List Int => [(1, i64 (-1)), (2, .pt 0 1 0 0), (5, .sl 5 g.nodes.length), (6, .sl 10 σ.2.2.length), (7, i64 σ.1)])
    (fun σ H n => 11 ≤ n ∧ σ.1 ≤ σ.2.2.length ∧ Going g (-1) σ.2.1 (σ.2.2.drop σ.1) ∧ σ.2.2.length + σ.2.1.count false = g.nodes.length ∧ (∃ d, getH H 0 = some (.row 33 4 d [g.av])) ∧ (∃ d, getH H 5 = some (.row 4 1 d (σ.2.1.map bl))) ∧ ∃ d, getH H 10 = some (.row 3 1 d (σ.2.2.map i64)))
    (fun σ => g.nodes.length - σ.1) (0, (List.replicate g.nodes.length false).set 0 true, [0]) aLess ⟨aNx, Nat.zero_le _, Going.start hw, ?_, ⟨_, aRow⟩, ⟨_, by rw [← hst]; exact aRow⟩, ⟨_, aRow⟩⟩ ?_
  · have := count_set (l := List.replicate g.nodes.length false) (i := 0) (by simp; omega) (by simp [List.getD, List.getElem?_replicate]; split <;> rfl)
    simp only [List.count_replicate_self] at this
    simp only [List.length_cons, List.length_nil]
    omega
  rintro ⟨k, out, todo⟩ H n ⟨hn, hk, hgo, hcnt, ⟨d0, r0⟩, ⟨d5, r5⟩, ⟨d10, r10⟩⟩
  dsimp only at hk hgo hcnt r5 r10 ⊢
  have hol := hgo.len
  have hml : (todo.map i64).length = todo.length := by simp
  have holm : (out.map bl).length = g.nodes.length := by simp [hol]
  by_cases hkl : k < todo.length
  · have hdr : todo.drop k = [] ++ todo.getD k 0 :: todo.drop (k + 1) := by rw [List.drop_eq_getElem_cons hkl, gd hkl]; rfl
    obtain ⟨x0, x1, x2⟩ := hgo.inr (todo.getD k 0) (by rw [hdr]; simp)
    rw [hol] at x1
    have et := fun d => int_at (l := todo) hkl d
    generalize hx : todo.getD k 0 = x at *
    have en := fun d => nd_at (l := g.nodes) x1 d
    have hf := rfollows_pure (g.nd x.toNat)
    have hfl := fol_len (g.nd x.toNat)
    unfold imF at hf
    repeat' (first | ((with_reducible refine Go.red ?_); conv => whnf) | refine aG ?_ | exact aCn | with_reducible refine Go.and ?_ ?_ | ((with_reducible refine Ask.mk ?_); first | exact aAsk | (exact hml) | exact aAsk2 | (intro h; simp_all [Graph.cells, Node.cells] <;> fail) | (simp_all [Graph.cells, Node.cells] <;> fail)) | (apply Go.elem; (· (first | exact et _ | exact en _ | exact aElem))) | refine aK (hf) ?_ | refine aH ?_ | ((with_reducible refine Go.bool ?_ ?_) <;> intro hc <;> (try simp only [List.length_map, ne_eq, hcs] at hc) <;> try (exfalso; omega)))
    clear hf
    refine Go.loop (fun q : (List Bool × List Int) × Nat => [(1, i64 (-1)), (2, .pt 0 1 0 0), (5, .sl 5 g.nodes.length), (6, .sl 10 q.1.2.length), (7, i64 k), (8, .im 1 .any ((g.nd x.toNat).fol.map i64)), (9, i64 q.2)])
      (fun q H2 n2 => 11 ≤ n2 ∧ q.2 ≤ (g.nd x.toNat).fol.length ∧ q.1.1.length = g.nodes.length ∧ q.1.2.length + q.1.1.count false = g.nodes.length ∧ spTo ((g.nd x.toNat).fol.drop q.2) q.1 = spTo (g.nd x.toNat).fol (out, todo) ∧ (∃ d, getH H2 0 = some (.row 33 4 d [g.av])) ∧ (∃ d, getH H2 5 = some (.row 4 1 d (q.1.1.map bl))) ∧ ∃ d, getH H2 10 = some (.row 3 1 d (q.1.2.map i64)))
      (fun q => (g.nd x.toNat).fol.length - q.2) ((out, todo), 0) aLess ⟨aNx, Nat.zero_le _, hol, hcnt, rfl, ⟨_, aRow⟩, ⟨_, aRow⟩, ⟨_, aRow⟩⟩ ?_
    clear r0 r5 r10
    rintro ⟨⟨o2, t2⟩, j⟩ H2 n2 ⟨hn2, hj, ho2, hc2, hsp, ⟨d0, r0⟩, ⟨d5, r5⟩, ⟨d10, r10⟩⟩
    dsimp only at hj ho2 hc2 hsp r5 r10 ⊢
    have hol2 : (o2.map bl).length = g.nodes.length := by simp [ho2]
    have htl2 : (t2.map i64).length = t2.length := by simp
    by_cases hjl : j < (g.nd x.toNat).fol.length
    · obtain ⟨y0, y1⟩ := (hw.2.2 x.toNat x1).2.2 _ (getD_mem' 0 hjl)
      have ej := fun d => int_at (l := (g.nd x.toNat).fol) hjl d
      have ek := fun d => bool_at (l := o2) (k := (g.nd x.toNat).fol.getD j 0) d (by rw [ho2]; exact y1)
      rw [spTo_drop _ _ hjl] at hsp
      generalize (g.nd x.toNat).fol.getD j 0 = y at *
      cases hfd : fnd o2 y with
      | true =>
        rw [if_neg (by rw [hfd]; decide)] at hsp
        rw [hfd] at ek
        repeat' (first | ((with_reducible refine Go.red ?_); conv => whnf) | refine aG ?_ | exact aCn | with_reducible refine Go.and ?_ ?_ | ((with_reducible refine Ask.mk ?_); first | exact aAsk | (exact hol2) | exact aAsk2) | (apply Go.elem; (· (first | exact ej _ | exact ek _ | exact aElem))) | refine aH ?_ | ((with_reducible refine Go.bool ?_ ?_) <;> intro hc <;> (try simp only [List.length_map, ne_eq, hcs] at hc) <;> try (exfalso; omega)))
        exact ⟨((o2, t2), j + 1), by dsimp only; omega, aLess, aNx, by dsimp only; omega, ho2, hc2, hsp, ⟨_, aRow⟩, ⟨_, aRow⟩, ⟨_, aRow⟩⟩
      | false =>
        rw [if_pos hfd] at hsp
        rw [hfd] at ek
        have hct := count_set (l := o2) (i := y.toNat) (by rw [ho2]; exact y1) hfd
        repeat' (first | ((with_reducible refine Go.red ?_); conv => whnf) | refine aG ?_ | exact aCn | with_reducible refine Go.and ?_ ?_ | ((with_reducible refine Ask.mk ?_); first | exact aAsk | (exact hol2) | exact aAsk2) | (apply Go.elem; (· (first | exact ej _ | exact ek _ | exact aElem))) | refine aH ?_ | ((with_reducible refine Go.bool ?_ ?_) <;> intro hc <;> (try simp only [List.length_map, ne_eq, hcs] at hc) <;> try (exfalso; omega)))
        refine ⟨((o2.set y.toNat true, t2 ++ [y]), j + 1), by dsimp only; omega, aLess, aNx, by dsimp only; omega, by simp [ho2], ?_, hsp, ⟨_, aRow⟩, ⟨_, by rw [← bool_set]; exact aRow⟩, ⟨_, by rw [← ints_app]; exact aRow⟩⟩
        simp only [List.length_append, List.length_cons, List.length_nil]
        omega
    · have : j = (g.nd x.toNat).fol.length := by omega
      subst this
      rw [List.drop_eq_nil_of_le (Nat.le_refl _), spTo] at hsp
      have sp := spTo_spread (g.nd x.toNat).fol (out, todo) (fun k hk => by have := (hw.2.2 x.toNat x1).2.2 k hk; rw [← hol] at this; exact this)
      rw [← hsp] at sp
      obtain ⟨t', e1, _, _, e4⟩ := sp.more
      dsimp only at e1 e4
      have hon := hgo.on hw (a := []) hdr (by omega) hsp.symm e1
      dsimp only at hon
      have hdr2 : t2.drop (k + 1) = [] ++ todo.drop (k + 1) ++ t' := by rw [e1, List.drop_append_of_le_length (by omega)]; rfl
      rw [← hdr2] at hon
      have hlt : t2.length = todo.length + t'.length := by rw [e1, List.length_append]
      repeat' (first | ((with_reducible refine Go.red ?_); conv => whnf) | refine aG ?_ | exact aC | with_reducible refine Go.and ?_ ?_ | (apply Go.elem; (· exact aElem)) | refine aH ?_ | ((with_reducible refine Go.bool ?_ ?_) <;> intro hc <;> (try simp only [List.length_map, ne_eq, hcs] at hc) <;> try (exfalso; omega)))
      exact ⟨(k + 1, o2, t2), by dsimp only; omega, aLess, aNx, by dsimp only; omega, hon, hc2, ⟨_, aRow⟩, ⟨_, aRow⟩, ⟨_, aRow⟩⟩
  · have : k = todo.length := by omega
    subst this
    rw [List.drop_eq_nil_of_le (Nat.le_refl _)] at hgo
    have hfin := hgo.fin hw
    subst hfin
    repeat' (first | ((with_reducible refine Go.red ?_); conv => whnf) | refine aG ?_ | exact aC | with_reducible refine Go.and ?_ ?_ | (apply Go.elem; (· exact aElem)) | refine aH ?_ | ((with_reducible refine Go.bool ?_ ?_) <;> intro hc <;> (try simp only [List.length_map, ne_eq, hcs] at hc) <;> try (exfalso; omega)))
    refine ⟨(frz_sl aRow holm).trans ?_⟩
    rw [frz_same _ (fit_bools _ _)]; rfl
theorem rreached_pure (g : Graph) (hg : g.Wf) (hw : Whole g) : Pure Tryd.prog 18 [g.av] (fun r => r = imB (reachL g (-1))) := by
  have h1 := rwhole_pure g hg hw
  have h2 := rwithout_pure g hg hw
  refine Go.pureL lf18 rfl ?_
  repeat' (first | ((with_reducible refine Go.red ?_); conv => whnf) | refine aG ?_ | exact aCn | with_reducible refine Go.and ?_ ?_ | ((with_reducible refine Ask.mk ?_); first | exact aAsk | exact aAsk2 | (intro h; simp_all [Graph.cells] <;> fail) | (simp_all [Graph.cells] <;> fail)) | (apply Go.elem; (· exact aElem)) | refine aK (h1) ?_ | refine aK (h2) ?_ | refine aH ?_ | ((with_reducible refine Go.bool ?_ ?_) <;> intro hc <;> (try simp only [List.length_map, ne_eq, hcs] at hc) <;> try (exfalso; omega)))
  exact Res.eq (by simp [imB, fitA, fitL_map]) rfl
end Go.Proofs.YtmonponfppdgfaaDoor
end
section
/- What stays behind Sweep: the law's walk, its first part. -/
namespace Go.Proofs.YtmonponfppdgfaaDoor
open Go Go.Abs Go.Proofs
set_option linter.unusedSimpArgs false
set_option linter.unusedVariables false
set_option maxRecDepth 4000 in
theorem visible_pure (cls : List ClassV) (n : Node) (hth : n.kind = 2 ∨ n.kind = 3 ∨ n.kind = 4 → 0 ≤ n.thing ∧ n.thing < cls.length) : Pure Tryd.prog 19 [.im 3 .any (cls.map ClassV.av), n.av] (fun r => r = bl (visB cls n)) := by
  have hml : (cls.map ClassV.av).length = cls.length := by simp
  refine Go.pureL lf19 rfl ?_
  by_cases h2 : 0 ≤ n.thing ∧ n.thing < cls.length
  · have hel := fun d => class_at (l := cls) (v := n.thing) (by omega) d
    repeat' (first | ((with_reducible refine Go.red ?_); conv => whnf) | refine aG ?_ | exact aCn | with_reducible refine Go.and ?_ ?_ | ((with_reducible refine Ask.mk ?_); first | exact aAsk | (exact hml) | exact aAsk2 | (intro h; simp_all [Node.cells, ClassV.cells] <;> fail) | (simp_all [Node.cells, ClassV.cells] <;> fail)) | (apply Go.elem; (· (first | exact hel _ | exact aElem))) | refine aH ?_ | ((with_reducible refine Go.bool ?_ ?_) <;> intro hc <;> (try simp only [List.length_map, ne_eq, hcs] at hc) <;> try (exfalso; omega)))
    all_goals refine bl_eq ?_
    all_goals unfold visB
    all_goals first
      | (rw [decide_eq_true (show n.kind = 5 ∨ n.kind = 6 ∨ n.kind = 7 by omega)]; rfl)
      | (rw [decide_eq_false (show ¬ (n.kind = 5 ∨ n.kind = 6 ∨ n.kind = 7) by omega), decide_eq_false (show ¬ (n.kind = 2 ∨ n.kind = 3 ∨ n.kind = 4) by omega)]; rfl)
      | (rw [decide_eq_false (show ¬ (n.kind = 5 ∨ n.kind = 6 ∨ n.kind = 7) by omega), decide_eq_true (show n.kind = 2 ∨ n.kind = 3 ∨ n.kind = 4 by omega)]; by_cases a1 : 0 ≤ n.thing <;> by_cases a2 : n.thing < cls.length <;> simp_all)
  · have h234 : ¬ (n.kind = 2 ∨ n.kind = 3 ∨ n.kind = 4) := fun h => h2 (hth h)
    repeat' (first | ((with_reducible refine Go.red ?_); conv => whnf) | refine aG ?_ | exact aCn | with_reducible refine Go.and ?_ ?_ | ((with_reducible refine Ask.mk ?_); first | exact aAsk | (exact hml) | exact aAsk2 | (intro h; simp_all [Node.cells] <;> fail) | (simp_all [Node.cells] <;> fail)) | (apply Go.elem; (· exact aElem)) | refine aH ?_ | ((with_reducible refine Go.bool ?_ ?_) <;> intro hc <;> (try simp only [List.length_map, ne_eq, hcs] at hc) <;> try (exfalso; omega)))
    all_goals refine bl_eq ?_
    all_goals unfold visB
    all_goals first
      | (rw [decide_eq_true (show n.kind = 5 ∨ n.kind = 6 ∨ n.kind = 7 by omega)]; rfl)
      | (rw [decide_eq_false (show ¬ (n.kind = 5 ∨ n.kind = 6 ∨ n.kind = 7) by omega), decide_eq_false (show ¬ (n.kind = 2 ∨ n.kind = 3 ∨ n.kind = 4) by omega)]; rfl)
      | (rw [decide_eq_false (show ¬ (n.kind = 5 ∨ n.kind = 6 ∨ n.kind = 7) by omega), decide_eq_true (show n.kind = 2 ∨ n.kind = 3 ∨ n.kind = 4 by omega)]; by_cases a1 : 0 ≤ n.thing <;> by_cases a2 : n.thing < cls.length <;> simp_all)
def orgTo (g : Graph) (k : Nat) : Graph := { g with nodes := g.nodes.mapIdx fun j n => if j < k then { n with origin := (j : Int) } else n }
def orgG (g : Graph) : Graph := orgTo g 4096
def orgUTo (u : UnitS) (t k : Nat) : UnitS := { u with graphs := u.graphs.mapIdx fun j g => if j < t then orgG g else if j = t then orgTo g k else g }
def orgU (u : UnitS) : UnitS := { u with graphs := u.graphs.map orgG }
theorem orgTo_nd {g : Graph} {k i : Nat} (h : i < g.nodes.length) : (orgTo g k).nd i = if i < k then { g.nd i with origin := (i : Int) } else g.nd i := by
  simp [orgTo, Graph.nd, List.getD, h]
theorem orgTo_len (g : Graph) (k : Nat) : (orgTo g k).nodes.length = g.nodes.length := by simp [orgTo]
theorem orgTo_step {g : Graph} {k : Nat} (h : k < g.nodes.length) : ((orgTo g k).nodes.map Node.av).set k ({ g.nd k with origin := (k : Int) } : Node).av = (orgTo g (k + 1)).nodes.map Node.av := by
  rw [← List.map_set]
  congr 1
  apply List.ext_getElem (by simp [orgTo])
  intro i h1 h2
  have hi : i < g.nodes.length := by simpa [orgTo] using h2
  rw [List.getElem_set]
  simp only [orgTo, List.getElem_mapIdx]
  by_cases e : k = i
  · subst e
    rw [if_pos rfl, if_pos (by omega)]
    simp [Graph.nd, List.getD, h]
  · rw [if_neg e]
    by_cases hlt : i < k
    · rw [if_pos hlt, if_pos (by omega)]
    · rw [if_neg hlt, if_neg (by omega)]
theorem orgTo_all {g : Graph} {k : Nat} (h : ¬ (k < g.nodes.length ∧ k < 4096)) (hk : k ≤ 4096) : orgTo g k = orgG g := by
  unfold orgG orgTo
  congr 1
  apply List.ext_getElem (by simp)
  intro i h1 h2
  have hi : i < g.nodes.length := by simpa using h2
  simp only [List.getElem_mapIdx]
  by_cases e : i < k
  · rw [if_pos e, if_pos (by omega)]
  · rw [if_neg e, if_neg (by omega)]
theorem orgU_zero (u : UnitS) : orgUTo u 0 0 = u := by
  have : u.graphs.mapIdx (fun j g => if j < 0 then orgG g else if j = 0 then orgTo g 0 else g) = u.graphs := by
    apply List.ext_getElem (by simp)
    intro i h1 h2
    simp only [List.getElem_mapIdx, Nat.not_lt_zero, if_false]
    split
    · unfold orgTo
      have : u.graphs[i].nodes.mapIdx (fun j n => if j < 0 then ({ n with origin := (j : Int) } : Node) else n) = u.graphs[i].nodes := by
        apply List.ext_getElem (by simp)
        intro j q1 q2
        simp
      rw [this]
    · rfl
  show ({ u with graphs := u.graphs.mapIdx (fun j g => if j < 0 then orgG g else if j = 0 then orgTo g 0 else g) } : UnitS) = u
  rw [this]
theorem orgU_gr {u : UnitS} {t k j : Nat} (hj : j < u.graphs.length) : (orgUTo u t k).gr j = if j < t then orgG (u.gr j) else if j = t then orgTo (u.gr j) k else u.gr j := by
  simp [orgUTo, UnitS.gr, List.getD, hj]
theorem orgU_next {u : UnitS} {t k : Nat} (ht : t < u.graphs.length) (h : ¬ (k < (u.gr t).nodes.length ∧ k < 4096)) (hk : k ≤ 4096) : orgUTo u t k = orgUTo u (t + 1) 0 := by
  unfold orgUTo
  congr 1
  apply List.ext_getElem (by simp)
  intro j h1 h2
  simp only [List.getElem_mapIdx]
  have hj : j < u.graphs.length := by simpa using h2
  have hg : u.graphs[j] = u.gr j := by simp [UnitS.gr, List.getD, hj]
  by_cases e : j < t
  · rw [if_pos e, if_pos (by omega)]
  · rw [if_neg e]
    by_cases e2 : j = t
    · subst e2
      rw [if_pos rfl, if_pos (by omega), hg, orgTo_all h hk]
    · rw [if_neg e2, if_neg (by omega)]
      by_cases e3 : j = t + 1
      · rw [if_pos e3]
        unfold orgTo
        have : (u.graphs[j]).nodes.mapIdx (fun j n => if j < 0 then ({ n with origin := (j : Int) } : Node) else n) = (u.graphs[j]).nodes := by
          apply List.ext_getElem (by simp)
          intro j q1 q2
          simp
        rw [this]
      · rw [if_neg e3]
theorem orgU_all {u : UnitS} {t : Nat} (ht : u.graphs.length ≤ t) : orgUTo u t 0 = orgU u := by
  unfold orgUTo orgU
  congr 1
  apply List.ext_getElem (by simp)
  intro j h1 h2
  simp only [List.getElem_mapIdx, List.getElem_map]
  have hj : j < u.graphs.length := by simpa using h2
  rw [if_pos (by omega)]
theorem orgU_len (u : UnitS) (t k : Nat) : (orgUTo u t k).graphs.length = u.graphs.length := by simp [orgUTo]
theorem orgU_row (ids : List Nat) (u : UnitS) (t k : Nat) (h : ids.length = u.graphs.length) : gRow ids (orgUTo u t k).graphs = gRow ids u.graphs := by
  apply List.ext_getElem (by simp [gRow, orgUTo])
  intro j h1 h2
  have hj : j < u.graphs.length := by simp [gRow, h] at h2; exact h2
  have e1 : (gRow ids (orgUTo u t k).graphs)[j] = gCell (ids.getD j 0) ((orgUTo u t k).gr j) := by rw [← gRow_get (by rw [orgU_len]; exact h) (by rw [orgU_len]; exact hj) .any, gd]
  have e2 : (gRow ids u.graphs)[j] = gCell (ids.getD j 0) (u.gr j) := by rw [← gRow_get h hj .any, gd]
  rw [e1, e2, orgU_gr hj]
  split
  · simp [orgG, orgTo]
  · split
    · simp [orgTo]
    · rfl
theorem unitX_org (sh lk gr : Nat) (u : UnitS) (t k : Nat) : unitX sh lk gr (orgUTo u t k) = unitX sh lk gr u := by
  show AV.agg [.sl sh u.shared.length, .sl lk u.locks.length, .sl gr (orgUTo u t k).graphs.length] = _
  rw [orgU_len]
theorem UAt.org {sh lk gr xs : Nat} {ids : List Nat} {u : UnitS} {t k : Nat} {H H' : Hp} (h : UAt sh lk gr ids (orgUTo u t k) H) (ht : t < u.graphs.length) (hx : ids.getD t 0 = xs) (h1 : ∀ y ∈ sh :: lk :: gr :: ids, y ≠ xs → getH H' y = getH H y) (h2 : ∃ d, getH H' xs = some (.row 46 13 d ((orgTo (u.gr t) (k + 1)).nodes.map Node.av))) : UAt sh lk gr ids (orgUTo u t (k + 1)) H' := by
  have hl : ids.length = u.graphs.length := by have := h.len; rw [orgU_len] at this; exact this
  have hxm : xs ∈ ids := by rw [← hx]; exact getD_mem (by omega)
  have hnd := h.nodup
  simp only [List.nodup_cons, List.mem_cons, not_or] at hnd
  obtain ⟨⟨n1, n2, n3⟩, ⟨n4, n5⟩, n6, n7⟩ := hnd
  have hne : ∀ y, y ∉ ids → y ≠ xs := fun y hy e => hy (by rw [e]; exact hxm)
  refine ⟨h.nodup, by rw [orgU_len]; exact hl, ?_, ?_, ?_, fun j hj => ?_⟩
  · rw [h1 sh (by simp) (hne _ n3)]; exact h.sh
  · rw [h1 lk (by simp) (hne _ n5)]; exact h.lk
  · rw [h1 gr (by simp) (hne _ n6), orgU_row _ _ _ _ hl]
    have := h.gr
    rw [orgU_row _ _ _ _ hl] at this
    exact this
  · rw [orgU_len] at hj
    by_cases e : j = t
    · subst e
      rw [hx, orgU_gr hj, if_neg (by omega), if_pos rfl]; exact h2
    · have hjm : ids.getD j 0 ∈ ids := getD_mem (by omega)
      rw [h1 _ (List.mem_cons_of_mem _ (List.mem_cons_of_mem _ (List.mem_cons_of_mem _ hjm))) (fun e2 => e (nodup_inj n7 (by omega) (by omega) (e2.trans hx.symm)))]
      have := h.nds j (by rw [orgU_len]; exact hj)
      rw [orgU_gr hj] at this ⊢
      rw [if_neg e] at this ⊢
      exact this
theorem orgTo_wf {g : Graph} (hg : g.Wf) (k : Nat) (hk : k ≤ 4096) : (orgTo g k).Wf := by
  refine ⟨hg.name, hg.locals, hg.slots, fun n hn => ?_, by rw [orgTo_len]; exact hg.len⟩
  obtain ⟨i, hi, rfl⟩ := List.getElem_of_mem hn
  simp only [orgTo, List.getElem_mapIdx]
  have hi2 : i < g.nodes.length := by simpa [orgTo] using hi
  have hw := hg.nodes _ (List.getElem_mem hi2)
  split
  · exact ⟨hw.kind, hw.op, hw.slot, hw.thing, hw.a, hw.b, hw.next, hw.els, by unfold wf64; dsimp only; omega⟩
  · exact hw
theorem orgU_wf {u : UnitS} (hu : u.Wf) : (orgU u).Wf := by
  refine ⟨hu.shared, hu.sharedlen, hu.locks, hu.lockslen, fun g hg => ?_, by simpa [orgU] using hu.graphslen⟩
  obtain ⟨g0, h0, rfl⟩ := List.mem_map.1 hg
  exact orgTo_wf (hu.graphs _ h0) _ (by omega)
end Go.Proofs.YtmonponfppdgfaaDoor
end
section
/- A Sweep of a Sweep is the same; all its nodes are reached, none is idle; no thread has more nodes: the law's walk. -/
namespace Go.Proofs.YtmonponfppdgfaaDoor
open Go Go.Abs Go.Proofs
set_option linter.unusedSimpArgs false
set_option linter.unusedVariables false
structure Swept (u v : UnitS) : Prop where
  wf : v.Wf
  len : v.graphs.length = u.graphs.length
  less : ∀ t, t < u.graphs.length → (v.gr t).nodes.length ≤ (u.gr t).nodes.length
theorem Swept.once {u v : UnitS} (hr : RightU v) (h : Swept u v) : Swept u (onceU v) :=
  ⟨once_wf h.wf hr, (onceU_len v).trans h.len, fun t ht => Nat.le_trans (once_less hr t (by rw [h.len]; exact ht)) (h.less t ht)⟩
theorem swept_u {u : UnitS} (hu : u.Wf) (hr : RightU u) : RightU (sweepU u) ∧ Swept u (sweepU u) :=
  sweep_ind (P := Swept u) hr ⟨hu, rfl, fun _ _ => Nat.le_refl _⟩ fun v hv h => h.once hv
end Go.Proofs.YtmonponfppdgfaaDoor
end
