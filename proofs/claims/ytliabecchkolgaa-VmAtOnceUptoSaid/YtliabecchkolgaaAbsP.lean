/- Whatever order is drawn. -/
import Derived.Test.YtliabecchkolgaaAbsO
namespace Go.Abs
open Go.RowKit

section
variable {P : Program} {n lo l0 : Nat} {c0 : Cx} {ops : Array Oper} {gs : List GOp} {its : List It} {tl : Tr} {fr : Fr} {H : Hp} {nx : Nat} {w0 : World} {M0 : Nat → Prop} {ps : List (Nat × Nat)}

def lst (listed : Array Bool) (k : Nat) : Bool := listed.getD k false

/-- All that is known of a stretch of a region, in the order of the text. -/
structure Reg (P : Program) (n : Nat) (ops : Array Oper) (l0 : Nat) (gs : List GOp) (its : List It) (tl : Tr) (fr : Fr) (H : Hp) (nx : Nat) : Prop where
  len : l0 + gs.length ≤ ops.size
  low : ∀ (k : Nat) (o : Oper), k < gs.length → ops[l0 + k]? = some o → ∃ g : GOp, gs[k]? = some g ∧ lowOp P o = some g.op ∧ g.dst = o.dst ∧ (∀ x, o.dst = some x → x < n) ∧
    (match o.guard with | none => g.guard = none | some (j, want) => ∃ d, (ops[j]?).bind (·.dst) = some d ∧ g.guard = some (d, want))
  il : its.length = gs.length
  yld : ∀ (k : Nat) (g : GOp), gs[k]? = some g → ∃ it t, its[k]? = some it ∧ tl[k]? = some t ∧ it.dst = g.dst ∧ YldG P (nx + k) (apF (fun j => decide (j < k)) 0 its fr) (apH (fun j => decide (j < k)) 0 its H) g it.r it.u t.1 ∧
    t.2 = it.u.map (·.1) ∧ (YldOp P (nx + k) (apF (fun j => decide (j < k)) 0 its fr) (apH (fun j => decide (j < k)) 0 its H) g.op it.r it.u t.1 ∨ it.u = none ∧ it.r = .sc undef ∧ GuardK (apF (fun j => decide (j < k)) 0 its fr) g.guard False True ∧ t.1 = [])
  back : ∀ k, ∀ p ∈ preds ops k, p < k
  free : ∀ i j, i < j → j < gs.length → bothWays (ancs ops) (l0 + i) (l0 + j) = false → apartT (gs.getD i default) (gs.getD j default) = true
  far : ∀ i j, i < j → j < gs.length → bothWays (ancs ops) (l0 + i) (l0 + j) = false → (((gs.getD i default).op.wr && (gs.getD j default).op.rd) || ((gs.getD i default).op.rd && (gs.getD j default).op.wr)) = true → farT (tl.getD i ([], none)) (tl.getD j ([], none))

theorem mem_pairsTo {N i j : Nat} : (i, j) ∈ pairsTo N ↔ i < j ∧ j < N := by
  simp only [pairsTo, List.mem_flatMap, List.mem_range, List.mem_map, Prod.mk.injEq]
  constructor
  · rintro ⟨j', hj, i', hi, rfl, rfl⟩; exact ⟨hi, hj⟩
  · rintro ⟨h1, h2⟩; exact ⟨j, h2, i, h1, rfl, rfl⟩

/-- Two of its steps, neither of which waits for the other. -/
theorem Reg.apart (R : Reg P n ops l0 gs its tl fr H nx) {i j : Nat} {gi gj : GOp} {a b : It} {s t : List Nat × Option Nat} (hne : i ≠ j) (hi : gs[i]? = some gi) (hj : gs[j]? = some gj) (ha : its[i]? = some a) (hb : its[j]? = some b) (hs : tl[i]? = some s) (ht : tl[j]? = some t)
    (h1 : bothWays (ancs ops) (l0 + i) (l0 + j) = false) (h2 : bothWays (ancs ops) (l0 + j) (l0 + i) = false) : (∀ d, a.dst = some d → d ∉ gj.ts ∧ b.dst ≠ some d) ∧ (∀ d, b.dst = some d → d ∉ gi.ts) ∧ farT s t := by
  have main : ∀ {i j : Nat} {gi gj : GOp} {a b : It} {s t : List Nat × Option Nat}, i < j → gs[i]? = some gi → gs[j]? = some gj → its[i]? = some a → its[j]? = some b → tl[i]? = some s → tl[j]? = some t → bothWays (ancs ops) (l0 + i) (l0 + j) = false →
      (∀ d, a.dst = some d → d ∉ gj.ts ∧ b.dst ≠ some d) ∧ (∀ d, b.dst = some d → d ∉ gi.ts) ∧ farT s t := by
    intro i j gi gj a b s t hij hi hj ha hb hs ht hbw
    have hjl : j < gs.length := (List.getElem?_eq_some_iff.1 hj).1
    have gi' : gs.getD i default = gi := by simp [List.getD, hi]
    have gj' : gs.getD j default = gj := by simp [List.getD, hj]
    obtain ⟨a', s', e1, e2, e3, e4, e5, e6⟩ := R.yld i gi hi
    obtain ⟨b', t', f1, f2, f3, f4, f5, f6⟩ := R.yld j gj hj
    rw [ha] at e1; cases e1
    rw [hs] at e2; cases e2
    rw [hb] at f1; cases f1
    rw [ht] at f2; cases f2
    have hap := R.free i j hij hjl hbw
    rw [gi', gj'] at hap
    simp only [apartT, Bool.and_eq_true] at hap
    obtain ⟨q1, q2⟩ := hap
    refine ⟨fun d hd => ?_, fun d hd => ?_, ?_⟩
    · rw [e3] at hd
      rw [hd] at q1
      simp only [Bool.and_eq_true, Bool.not_eq_true', bne_iff_ne, ne_eq] at q1
      refine ⟨fun hm => ?_, by rw [f3]; exact q1.2⟩
      have := q1.1
      simp at this
      exact this hm
    · rw [f3] at hd
      rw [hd] at q2
      intro hm
      simp at q2
      exact q2 hm
    · by_cases hw : ((gi.op.wr && gj.op.rd) || (gi.op.rd && gj.op.wr)) = true
      · have := R.far i j hij hjl hbw (by rw [gi', gj']; exact hw)
        simpa [List.getD, hs, ht] using this
      · have hwr : ∀ {x : It} {g : GOp} {t : List Nat × Option Nat} {k bb : Nat}, t.2 = x.u.map (·.1) → t.2 = some bb → (YldOp P (nx + k) (apF (fun j => decide (j < k)) 0 its fr) (apH (fun j => decide (j < k)) 0 its H) g.op x.r x.u t.1 ∨ x.u = none ∧ x.r = .sc undef ∧ GuardK (apF (fun j => decide (j < k)) 0 its fr) g.guard False True ∧ t.1 = []) →
            g.op.wr = true ∧ (g.op.rd = false → bb = nx + k) := by
          intro x g t k bb h1 h2 h3
          rw [h2] at h1
          cases hu : x.u with
          | none => rw [hu] at h1; simp at h1
          | some p =>
            obtain ⟨b0, q⟩ := p
            rw [hu] at h1
            simp at h1
            subst h1
            rcases h3 with h3 | ⟨h3, _⟩
            · rw [hu] at h3; exact yldOp_wr h3
            · rw [hu] at h3; cases h3
        have hids : ∀ {x : It} {g : GOp} {t : List Nat × Option Nat} {k : Nat}, g.op.rd = false → (YldOp P (nx + k) (apF (fun j => decide (j < k)) 0 its fr) (apH (fun j => decide (j < k)) 0 its H) g.op x.r x.u t.1 ∨ x.u = none ∧ x.r = .sc undef ∧ GuardK (apF (fun j => decide (j < k)) 0 its fr) g.guard False True ∧ t.1 = []) → t.1 = [] := by
          intro x g t k h1 h2
          rcases h2 with h2 | ⟨_, _, _, h2⟩
          · exact yldOp_ids h2 h1
          · exact h2
        simp only [Bool.or_eq_true, Bool.and_eq_true, not_or, not_and, Bool.not_eq_true] at hw
        refine ⟨fun b0 hb0 => ?_, fun b0 hb0 => ?_, fun b0 hb0 => ?_⟩
        · have := hwr e5 hb0 e6
          rw [hids (hw.1 this.1) f6]; simp
        · have h3 := hwr f5 hb0 f6
          have hri : gi.op.rd = false := by
            cases hr : gi.op.rd with
            | false => rfl
            | true => have := hw.2 hr; rw [h3.1] at this; cases this
          rw [hids hri e6]; simp
        · have h3 := hwr e5 hb0.1 e6
          have h4 := hwr f5 hb0.2 f6
          have hri : gi.op.rd = false := by
            cases hr : gi.op.rd with
            | false => rfl
            | true => have := hw.2 hr; rw [h4.1] at this; cases this
          have := h3.2 hri
          have := h4.2 (hw.1 h3.1)
          omega
  rcases Nat.lt_or_gt_of_ne hne with hlt | hgt
  · exact main hlt hi hj ha hb hs ht h1
  · obtain ⟨m1, m2, m3⟩ := main hgt hj hi hb ha ht hs h2
    exact ⟨fun d hd => ⟨m2 d hd, fun e => (m1 d e).2 hd⟩, fun d hd => (m1 d hd).1, m3.2.1, m3.1, fun b hb => m3.2.2 b ⟨hb.2, hb.1⟩⟩

/-- Where a step is still to come, and all that it waits for has come up. -/
theorem Reg.step (R : Reg P n ops l0 gs its tl fr H nx) {Lg : Nat → Bool} (hdc : ∀ k, Lg k = true → ∀ p ∈ preds ops k, Lg p = true) {i : Nat} {o : Oper} (hil : i < gs.length) (ho : ops[l0 + i]? = some o) (hi : Lg (l0 + i) = false) (hp : ∀ p ∈ preds ops (l0 + i), Lg p = true)
    {L : Nat → Bool} (hL : L = fun k => Lg (l0 + k)) :
    ∃ (g : GOp) (it : It), gs[i]? = some g ∧ its[i]? = some it ∧ it.dst = o.dst ∧ lowOp P o = some g.op ∧ (∀ x, o.dst = some x → x < n) ∧ (∃ S, YldG P (nx + i) (apF L 0 its fr) (apH L 0 its H) g it.r it.u S) ∧
      (match o.guard with | none => g.guard = none | some (j, want) => ∃ d, (ops[j]?).bind (·.dst) = some d ∧ g.guard = some (d, want)) ∧
      (∀ t, getF (putF (apF L 0 its fr) it.dst it.r) t = getF (apF (fun k => L k || k == i) 0 its fr) t) ∧ (∀ b, getH (putH (apH L 0 its H) it.u) b = getH (apH (fun k => L k || k == i) 0 its H) b) := by
  obtain ⟨g, hg, hl, hd, hdst, hgd⟩ := R.low i o hil ho
  obtain ⟨it, t, e1, e2, e3, e4, e5, e6⟩ := R.yld i g hg
  have hA := ancs_spec R.back
  have hi : L i = false := by rw [hL]; exact hi
  have hir : ∀ j, bothWays (ancs ops) (l0 + j) (l0 + i) = true → L j = true := fun j hj => by rw [hL]; exact (hA _ _ hj).2 Lg hdc hp
  have hri : ∀ j, L j = true → bothWays (ancs ops) (l0 + i) (l0 + j) = false := by
    intro j hj
    cases hr : bothWays (ancs ops) (l0 + i) (l0 + j) with
    | false => rfl
    | true =>
      rw [hL] at hj hi
      have := (hA _ _ hr).2 Lg hdc (hdc _ hj)
      simp only at hi
      rw [hi] at this; cases this
  -- what a step that is out of order touches
  have other : ∀ j it', its[j]? = some it' → j ≠ i → (L j = true ∧ ¬ j < i ∨ L j = false ∧ j < i) → (∀ d, it'.dst = some d → d ∉ g.ts) ∧ (∀ d, it'.dst = some d → it.dst ≠ some d) ∧ ∃ t', tl[j]? = some t' ∧ t'.2 = it'.u.map (·.1) ∧ farT t t' := by
    intro j it' hj hne hor
    have hjl : j < gs.length := by have := (List.getElem?_eq_some_iff.1 hj).1; rw [R.il] at this; exact this
    obtain ⟨it2, t', f1, f2, f3, f4, f5, f6⟩ := R.yld j gs[j] (List.getElem?_eq_getElem hjl)
    rw [hj] at f1; cases f1
    have b1 : bothWays (ancs ops) (l0 + i) (l0 + j) = false := by
      rcases hor with ⟨h1, h2⟩ | ⟨h1, h2⟩
      · exact hri j h1
      · cases hr : bothWays (ancs ops) (l0 + i) (l0 + j) with
        | false => rfl
        | true => have := (hA _ _ hr).1; omega
    have b2 : bothWays (ancs ops) (l0 + j) (l0 + i) = false := by
      cases hr : bothWays (ancs ops) (l0 + j) (l0 + i) with
      | false => rfl
      | true =>
        have h3 := hir j hr
        rcases hor with ⟨_, h2⟩ | ⟨h1, _⟩
        · have := (hA _ _ hr).1; omega
        · rw [h1] at h3; cases h3
    obtain ⟨a1, a2, a3⟩ := R.apart (Ne.symm hne) hg (List.getElem?_eq_getElem hjl) e1 hj e2 f2 b1 b2
    exact ⟨a2, fun d hd hi' => (a1 d hi').2 hd, t', f2, f5, a3⟩
  have hFts : ∀ t ∈ g.ts, getF (apF (fun j => decide (j < i)) 0 its fr) t = getF (apF L 0 its fr) t := by
    intro tt ht
    refine apF_agree rfl fun j it' hj hd => ?_
    simp only [Nat.zero_add]
    by_cases hji : j = i
    · subst hji; simp [hi]
    · cases hLj : L j with
      | true =>
        by_cases hlt : j < i
        · simp [hlt]
        · exact absurd ht ((other j it' hj hji (.inl ⟨hLj, hlt⟩)).1 tt hd)
      | false =>
        by_cases hlt : j < i
        · exact absurd ht ((other j it' hj hji (.inr ⟨hLj, hlt⟩)).1 tt hd)
        · simp [hlt]
  have hHids : ∀ b ∈ t.1, getH (apH (fun j => decide (j < i)) 0 its H) b = getH (apH L 0 its H) b := by
    intro b hb
    refine apH_agree rfl fun j it' hj hd => ?_
    obtain ⟨q, hq⟩ := hd
    simp only [Nat.zero_add]
    by_cases hji : j = i
    · subst hji; simp [hi]
    · have key : ∀ h, False := fun (h : L j = true ∧ ¬ j < i ∨ L j = false ∧ j < i) => by
        obtain ⟨_, _, t', _, h2, h3⟩ := other j it' hj hji h
        exact h3.2.1 b (by rw [h2, hq]; rfl) hb
      cases hLj : L j with
      | true =>
        by_cases hlt : j < i
        · simp [hlt]
        · exact (key (.inl ⟨hLj, hlt⟩)).elim
      | false =>
        by_cases hlt : j < i
        · exact (key (.inr ⟨hLj, hlt⟩)).elim
        · simp [hlt]
  have hY : ∃ S, YldG P (nx + i) (apF L 0 its fr) (apH L 0 its H) g it.r it.u S := by
    refine ⟨t.1, ?_⟩
    have hgF : ∀ A B A' B' : Prop, (A → A') → (B → B') → GuardK (apF (fun j => decide (j < i)) 0 its fr) g.guard A B → GuardK (apF L 0 its fr) g.guard A' B' := by
      intro A B A' B' ha hb h
      have h' := GuardK.mono h ha hb
      unfold GuardK at h' ⊢
      cases hgg : g.guard with
      | none => rw [hgg] at h'; exact h'
      | some p =>
        obtain ⟨d, want⟩ := p
        rw [hgg] at h'
        simp only at h' ⊢
        rw [← hFts d (by simp [GOp.ts, hgg])]
        exact h'
    rcases e6 with h1 | ⟨h1, h2, h3, _⟩
    · refine hgF _ _ _ _ (fun _ => ?_) (fun h => h) e4
      exact yldOp_congr (fun t ht => hFts t (by simp only [GOp.ts, List.mem_append]; exact .inr ht)) h1 hHids
    · exact hgF _ _ _ _ (fun h => h.elim) (fun _ => ⟨h2, h1⟩) h3
  refine ⟨g, it, hg, e1, e3.trans hd, hl, hdst, hY, hgd, fun tt => ?_, fun b => ?_⟩
  · by_cases htt : it.dst = some tt
    · rw [htt, getF_put_eq]
      refine (apF_last htt e1 (by simp) fun j it' hij hj hd' => ?_).symm
      simp only [Nat.zero_add, Bool.or_eq_false_iff, beq_eq_false_iff_ne, ne_eq]
      refine ⟨?_, by omega⟩
      cases hLj : L j with
      | false => rfl
      | true => exact absurd htt ((other j it' hj (by omega) (.inl ⟨hLj, by omega⟩)).2.1 tt hd')
    · rw [getF_put_ne htt]
      refine apF_agree rfl fun j it' hj hd' => ?_
      simp only [Nat.zero_add]
      by_cases hji : j = i
      · subst hji; rw [e1] at hj; cases hj; exact absurd hd' htt
      · simp [hji]
  · by_cases hb : ∃ q, it.u = some (b, q)
    · obtain ⟨q, hq⟩ := hb
      rw [hq, getH_put_eq]
      refine (apH_last hq e1 (by simp) fun j it' hij hj hd' => ?_).symm
      simp only [Nat.zero_add, Bool.or_eq_false_iff, beq_eq_false_iff_ne, ne_eq]
      refine ⟨?_, by omega⟩
      cases hLj : L j with
      | false => rfl
      | true =>
        exfalso
        obtain ⟨q', hq'⟩ := hd'
        obtain ⟨_, _, t', _, h2, h3⟩ := other j it' hj (by omega) (.inl ⟨hLj, by omega⟩)
        exact h3.2.2 b ⟨by rw [e5, hq]; rfl, by rw [h2, hq']; rfl⟩
    · rw [getH_put_ne fun k hk => hb ⟨k, hk⟩]
      refine apH_agree rfl fun j it' hj hd' => ?_
      simp only [Nat.zero_add]
      by_cases hji : j = i
      · subst hji; rw [e1] at hj; cases hj; exact absurd hd' hb
      · simp [hji]

theorem yld_step {id : Nat} {fr : Fr} {H : Hp} {op : LOp} {r : AV} {u : Option (Nat × Blk)} {S : List Nat} (h : YldOp P id fr H op r u S) : StepK P id fr H op (fun r' H' => r' = r ∧ H' = putH H u) := by
  by_cases hc : ∃ f as, op = .call f as
  · obtain ⟨f, as, rfl⟩ := hc
    simp only [YldOp, PureK] at h
    simp only [StepK]
    split at h
    · rename_i g first caps he
      rw [he]
      simp only [CallK]
      exact h.1 H fun _ _ => rfl
    · exact h.elim
  · have e : YldOp P id fr H op r u S = (stepL id fr H op = some (r, u) ∧ S = idsOp fr op) := by cases op <;> first | rfl | exact absurd ⟨_, _, rfl⟩ hc
    rw [e] at h
    have e2 : StepK P id fr H op (fun r' H' => r' = r ∧ H' = putH H u) = optK (stepL id fr H op) fun p => p.1 = r ∧ putH H p.2 = putH H u := by cases op <;> first | rfl | exact absurd ⟨_, _, rfl⟩ hc
    rw [e2, h.1]
    exact ⟨rfl, rfl⟩

/-- The state when just these have come up. -/
def HoldsL (w0 : World) (M0 : Nat → Prop) (c0 : Cx) (lo n : Nat) (fr : Fr) (H : Hp) (nx : Nat) (L : Nat → Bool) (a : Act) (w : World) : Prop :=
  a.tmps.size = n ∧ a.defers = [] ∧ ∃ ρ U, (∀ b, U b → b < nx ∨ ∃ j, L j = true ∧ b = nx + j) ∧ Sim w0 ⟨ρ, getH H, U, w, M0⟩ ∧ FR ⟨ρ, getH H, U, w, M0⟩ fr a.tmps ∧ Track c0 lo ⟨ρ, getH H, U, w, M0⟩

theorem lst_set {listed : Array Bool} {i k : Nat} (hi : i < listed.size) : lst (listed.setIfInBounds i true) k = (lst listed k || k == i) := by
  unfold lst
  by_cases h : k = i
  · subst h; simp [Array.getD, hi]
  · have : (k == i) = false := by simpa using h
    simp [this, Ne.symm h]

/-- How many are still to come. -/
def left (ops : Array Oper) (listed : Array Bool) : Nat := ((List.range ops.size).filter fun k => !lst listed k).length
theorem left_set {listed : Array Bool} {i : Nat} (hs : listed.size = ops.size) (hlt : i < ops.size) (hl : lst listed i = false) : left ops (listed.setIfInBounds i true) + 1 = left ops listed := by
  unfold left
  have hmem : i ∈ (List.range ops.size).filter fun k => !lst listed k := by simp [hlt, hl]
  have e : ((List.range ops.size).filter fun k => !lst (listed.setIfInBounds i true) k) = ((List.range ops.size).filter fun k => !lst listed k).filter (fun k => k != i) := by
    rw [List.filter_filter]
    refine List.filter_congr fun k _ => ?_
    rw [lst_set (by omega)]
    cases lst listed k <;> simp [bne]
  rw [e]
  have hnd : ((List.range ops.size).filter fun k => !lst listed k).Nodup := List.Pairwise.filter _ List.nodup_range
  have : ∀ (l : List Nat), l.Nodup → i ∈ l → (l.filter fun k => k != i).length + 1 = l.length := by
    intro l
    induction l with
    | nil => intro _ h; cases h
    | cons x l ihl =>
      intro hnd hm
      rw [List.nodup_cons] at hnd
      by_cases hx : x = i
      · subst hx
        have : (l.filter fun k => k != x) = l := by
          rw [List.filter_eq_self]
          intro y hy
          simp only [bne_iff_ne, ne_eq]
          rintro rfl
          exact hnd.1 hy
        simp [this]
      · have hm' : i ∈ l := by
          rcases List.mem_cons.1 hm with h | h
          · exact absurd h.symm hx
          · exact h
        have := ihl hnd.2 hm'
        simp [hx]
        exact this
  exact this _ hnd hmem
theorem mem_ready' {listed : Array Bool} {i : Nat} (hs : listed.size = ops.size) : i ∈ Region.ready .any ops listed ↔ lst listed i = false ∧ i < ops.size ∧ ∀ p ∈ preds ops i, lst listed p = true := by
  rw [mem_ready]
  constructor
  · rintro ⟨h1, o, ho, h2⟩
    have hlt := (Array.getElem?_eq_some_iff.1 ho).1
    refine ⟨?_, hlt, fun p hp => ?_⟩
    · unfold lst; have : i < listed.size := by omega
      simpa [Array.getD, this] using h1
    · simp only [preds, ho, List.mem_filterMap] at hp
      obtain ⟨e, he, hp⟩ := hp
      split at hp
      · rename_i hb; simp at hp; subst hp; exact h2 e (by simpa using he) hb
      · simp at hp
  · rintro ⟨h1, hlt, h2⟩
    refine ⟨?_, ops[i], Array.getElem?_eq_getElem hlt, fun e he hb => ?_⟩
    · unfold lst at h1; have : i < listed.size := by omega
      simpa [Array.getD, this] using h1
    · refine h2 e.on ?_
      simp only [preds, Array.getElem?_eq_getElem hlt, List.mem_filterMap]
      exact ⟨e, by simpa using he, by simp [hb]⟩

/-- A stretch, in whatever order; behind it 'K'. -/
theorem Reg.any (R : Reg P n ops l0 gs its tl fr H nx) {Q : Exit → Act → World → Prop} (hcut : l0 + gs.length = ops.size ∨ cutAt (ancs ops) ops.size (l0 + gs.length) = true) (hQ : ∀ fuel listed a w, listed.size = ops.size → left ops listed = fuel → (∀ k, lst listed k = decide (k < l0 + gs.length)) → HoldsL w0 M0 c0 lo n (apF (fun _ => true) 0 its fr) (apH (fun _ => true) 0 its H) nx (fun k => decide (k < gs.length)) a w → wpAny P .any ops Q fuel listed a w) :
    ∀ (fuel : Nat) (listed : Array Bool) (a : Act) (w : World), listed.size = ops.size → left ops listed = fuel → (∀ k, lst listed k = true → ∀ p ∈ preds ops k, lst listed p = true) → (∀ k, k < l0 → lst listed k = true) → (∀ k, l0 + gs.length ≤ k → lst listed k = false) →
      HoldsL w0 M0 c0 lo n (apF (fun k => lst listed (l0 + k)) 0 its fr) (apH (fun k => lst listed (l0 + k)) 0 its H) nx (fun k => lst listed (l0 + k)) a w → wpAny P .any ops Q fuel listed a w := by
  have hA := ancs_spec R.back
  have done : ∀ {listed : Array Bool} {a : Act} {w : World}, listed.size = ops.size → (∀ k, k < l0 + gs.length → lst listed k = true) → (∀ k, l0 + gs.length ≤ k → lst listed k = false) → HoldsL w0 M0 c0 lo n (apF (fun k => lst listed (l0 + k)) 0 its fr) (apH (fun k => lst listed (l0 + k)) 0 its H) nx (fun k => lst listed (l0 + k)) a w → wpAny P .any ops Q (left ops listed) listed a w := by
    intro listed a w hs hall hno hh
    have e1 : ∀ t, getF (apF (fun k => lst listed (l0 + k)) 0 its fr) t = getF (apF (fun _ => true) 0 its fr) t := fun t => apF_agree rfl fun j it hj _ => by
      have h1 := (List.getElem?_eq_some_iff.1 hj).1
      have h2 := R.il
      simpa using hall (l0 + j) (by omega)
    have e2 : getH (apH (fun k => lst listed (l0 + k)) 0 its H) = getH (apH (fun _ => true) 0 its H) := by
      funext b
      exact apH_agree rfl fun j it hj _ => by
        have h1 := (List.getElem?_eq_some_iff.1 hj).1
        have h2 := R.il
        simpa using hall (l0 + j) (by omega)
    obtain ⟨h1, h2, ρ, U, hU, hS, hF, hT⟩ := hh
    refine hQ _ listed a w hs rfl (fun k => ?_) ⟨h1, h2, ρ, U, fun b hb => ?_, by rw [← e2]; exact hS, fun t => by rw [← e2, ← e1]; exact hF t, by rw [← e2]; exact hT⟩
    · by_cases hk : k < l0 + gs.length
      · simp [hall k hk, hk]
      · rw [hno k (by omega)]; simp [hk]
    · rcases hU b hb with h | ⟨j, hj, rfl⟩
      · exact .inl h
      · refine .inr ⟨j, ?_, rfl⟩
        by_cases hk : j < gs.length
        · simpa using hk
        · have hj : lst listed (l0 + j) = true := hj
          rw [hno (l0 + j) (by omega)] at hj; cases hj
  intro fuel
  induction fuel with
  | zero =>
    intro listed a w hs hf hdc hlow hno hh
    have hall : ∀ k, k < l0 + gs.length → lst listed k = true := by
      intro k hk
      have hnil := List.eq_nil_of_length_eq_zero hf
      cases hl : lst listed k with
      | true => rfl
      | false =>
        have : k ∈ (List.range ops.size).filter fun k => !lst listed k := by have := R.len; simp [hl]; omega
        rw [hnil] at this; cases this
    have := done hs hall hno hh
    rw [hf] at this
    exact this
  | succ fuel ih =>
    intro listed a w hs hf hdc hlow hno hh
    by_cases hall : ∀ k, k < l0 + gs.length → lst listed k = true
    · have := done hs hall hno hh
      rw [hf] at this
      exact this
    -- some of the stretch is still to come, and only of it
    have hin : ∀ i, i ∈ Region.ready .any ops listed → l0 ≤ i ∧ i < l0 + gs.length := by
      intro i hi
      obtain ⟨hl, hlt, hp⟩ := (mem_ready' hs).1 hi
      refine ⟨?_, ?_⟩
      · rcases Nat.lt_or_ge i l0 with h | h
        · rw [hlow i h] at hl; cases hl
        · exact h
      · rcases Nat.lt_or_ge i (l0 + gs.length) with h | h
        · exact h
        · exfalso
          rcases hcut with hc | hc
          · omega
          · refine hall fun k hk => ?_
            exact (hA _ _ (cutAt_spec hc hk h hlt)).2 (lst listed) hdc hp
    refine ⟨fun hnil => ?_, fun i hi => ?_⟩
    · exfalso
      refine hall fun k hk => ?_
      induction k using Nat.strongRecOn with
      | _ k ihk =>
        cases hl : lst listed k with
        | true => rfl
        | false =>
          have hlen := R.len
          have : k ∈ Region.ready .any ops listed := (mem_ready' hs).2 ⟨hl, by omega, fun p hp => ihk p (R.back k p hp) (by have := R.back k p hp; omega)⟩
          rw [hnil] at this; cases this
    · obtain ⟨hl, hlt, hp⟩ := (mem_ready' hs).1 hi
      obtain ⟨hge, hlt2⟩ := hin i hi
      obtain ⟨i', rfl⟩ : ∃ i', i = l0 + i' := ⟨i - l0, by omega⟩
      have ho : ops[l0 + i']? = some ops[l0 + i'] := Array.getElem?_eq_getElem hlt
      obtain ⟨g, it, hg, hit, hd, hlo, hdst, ⟨S, hY⟩, hgd, hF', hH'⟩ := R.step (Lg := lst listed) hdc (by omega) ho hl hp rfl
      obtain ⟨hn, hde, ρ, U, hU, hS, hF, hT⟩ := hh
      have hid : ¬ U (nx + i') := fun h => by
        rcases hU _ h with h | ⟨j, hj, he⟩
        · omega
        · have : j = i' := by omega
          subst this
          have hj : lst listed (l0 + j) = true := hj
          rw [hl] at hj; cases hj
      have hset : ∀ k, lst (listed.setIfInBounds (l0 + i') true) (l0 + k) = (lst listed (l0 + k) || k == i') := by
        intro k
        rw [lst_set (by omega)]
        congr 1
        by_cases hk : k = i'
        · subst hk; simp
        · have h1 : (k == i') = false := by simpa using hk
          have h2 : (l0 + k == l0 + i') = false := by simp; omega
          rw [h1, h2]
      have hH'' : getH (putH (apH (fun k => lst listed (l0 + k)) 0 its H) it.u) = getH (apH (fun k => lst (listed.setIfInBounds (l0 + i') true) (l0 + k)) 0 its H) := by
        funext b
        rw [hH' b]
        exact apH_agree rfl fun j _ _ _ => by rw [hset]
      have hF'' : ∀ t, getF (putF (apF (fun k => lst listed (l0 + k)) 0 its fr) ops[l0 + i'].dst it.r) t = getF (apF (fun k => lst (listed.setIfInBounds (l0 + i') true) (l0 + k)) 0 its fr) t := by
        intro t
        rw [← hd, hF' t]
        exact apF_agree rfl fun j _ _ _ => by rw [hset]
      have nextOne : ∀ {v : Value} {ρ' : Nat → Option (Nat × Nat × Nat)} {w' : World}, Sim w0 (nxt ⟨ρ, getH (apH (fun k => lst listed (l0 + k)) 0 its H), U, w, M0⟩ (nx + i') ρ' (getH (putH (apH (fun k => lst listed (l0 + k)) 0 its H) it.u)) w') → Cx.le ⟨ρ, getH (apH (fun k => lst listed (l0 + k)) 0 its H), U, w, M0⟩ (nxt ⟨ρ, getH (apH (fun k => lst listed (l0 + k)) 0 its H), U, w, M0⟩ (nx + i') ρ' (getH (putH (apH (fun k => lst listed (l0 + k)) 0 its H) it.u)) w') →
          VR (nxt ⟨ρ, getH (apH (fun k => lst listed (l0 + k)) 0 its H), U, w, M0⟩ (nx + i') ρ' (getH (putH (apH (fun k => lst listed (l0 + k)) 0 its H) it.u)) w') it.r v → wpAny P .any ops Q fuel (listed.setIfInBounds (l0 + i') true) (a.put ops[l0 + i'].dst v) w' := by
        intro v ρ' w' s1 s2 s3
        refine ih _ _ _ (by simpa using hs) ?_ (fun k hk p hp' => ?_) (fun k hk => ?_) (fun k hk => ?_) ?_
        · have := left_set hs hlt hl; omega
        · rw [lst_set (by omega)] at hk ⊢
          simp only [Bool.or_eq_true, beq_iff_eq] at hk ⊢
          rcases hk with hk | rfl
          · exact .inl (hdc k hk p hp')
          · exact .inl (hp p hp')
        · rw [lst_set (by omega), hlow k hk]; rfl
        · rw [lst_set (by omega), hno k hk]
          simp; omega
        · obtain ⟨q1, q2⟩ := put_size a ops[l0 + i'].dst v
          have hfr := hF.put s2 s3 (d := ops[l0 + i'].dst) (fun x hx => by rw [hn]; exact hdst x hx)
          refine ⟨q1.trans hn, q2.trans hde, ρ', fun x => U x ∨ x = nx + i', fun b hb => ?_, by rw [← hH'']; exact s1, fun t => ?_, by rw [← hH'']; exact hT.to s2⟩
          · rcases hb with hb | rfl
            · rcases hU b hb with h | ⟨j, hj, rfl⟩
              · exact .inl h
              · exact .inr ⟨j, (hset j).trans (by rw [show lst listed (l0 + j) = true from hj]; rfl), rfl⟩
            · exact .inr ⟨i', (hset i').trans (by simp), rfl⟩
          · rw [← hH'', ← hF'' t]
            exact hfr t
      unfold wpOp
      rw [ho]
      simp only
      have hgc := guard_cases (c := ⟨ρ, getH (apH (fun k => lst listed (l0 + k)) 0 its H), U, w, M0⟩) hF hgd hY
      rcases hgc with ⟨hw, hy⟩ | ⟨hw, hr, hu⟩
      · rw [if_pos hw]
        refine .inl (step_wp (c := ⟨ρ, getH (apH (fun k => lst listed (l0 + k)) 0 its H), U, w, M0⟩) hlo hS rfl hF hid (yld_step hy) ?_)
        rintro v r' H'' ρ' w' ⟨rfl, rfl⟩ s1 s2 s3
        exact nextOne s1 s2 s3
      · rw [if_neg (by simp [hw])]
        obtain ⟨s1, s2⟩ := hS.used (U := fun x => U x ∨ x = nx + i') fun _ h => .inl h
        refine nextOne (v := undef) (ρ' := ρ) (w' := w) ?_ ?_ ?_
        · rw [hu]; exact s1
        · rw [hu]; exact s2
        · rw [hr, VR]

/-- Stretch by stretch. -/
def RunS (P : Program) : Nat → List Seg → Fr → Hp → (Fr → Hp → Nat → Prop) → Prop
  | nx, [], fr, H, K => K fr H nx
  | nx, s :: rest, fr, H, K => match s.ops with
    | [g] => GuardK fr g.guard (StepN P nx fr H g.op fun r H' nx' => RunS P nx' rest (putF fr g.dst r) H' K) (RunS P (nx + 1) rest (putF fr g.dst (.sc undef)) H K)
    | gs => RunD P nx gs fr H [] fun fr' H' tr => farAll tr s.ps ∧ RunS P (nx + gs.length) rest fr' H' K

theorem segs_any (h1 : lowGs P n ops ops.toList = some gs) (hb : ∀ k, ∀ p ∈ preds ops k, p < k) {K : Fr → Hp → Nat → Prop} {Q : Exit → Act → World → Prop}
    (hQ : ∀ fr H nx a w, K fr H nx → Holds w0 M0 c0 lo n fr H nx a w → Q .normal a w) : ∀ (cs : List Nat) (l0 : Nat) (segs : List Seg), segGo (ancs ops) ops.size gs l0 cs = some segs →
    ∀ (fuel nx : Nat) (fr : Fr) (H : Hp) (listed : Array Bool) (a : Act) (w : World), RunS P nx segs fr H K → listed.size = ops.size → left ops listed = fuel → (∀ k, lst listed k = decide (k < l0)) → Holds w0 M0 c0 lo n fr H nx a w → wpAny P .any ops Q fuel listed a w
  | [], l0, segs, h, fuel, nx, fr, H, listed, a, w, hr, hs, hf, hl, hh => by
    simp only [segGo, Option.ite_none_right_eq_some, Option.some.injEq] at h
    obtain ⟨rfl, rfl⟩ := h
    have h0 : left ops listed = 0 := by
      unfold left
      rw [List.length_eq_zero_iff, List.filter_eq_nil_iff]
      intro k hk
      simp at hk
      simp [hl, hk]
    rw [h0] at hf
    subst hf
    refine ⟨?_, hQ _ _ _ _ _ hr hh⟩
    cases hrd : Region.ready .any ops listed with
    | nil => rfl
    | cons i l =>
      have : i ∈ Region.ready .any ops listed := by rw [hrd]; simp
      obtain ⟨h1, h2, _⟩ := (mem_ready' hs).1 this
      rw [hl] at h1
      simp at h1; omega
  | c :: cs, l0, segs, h, fuel, nx, fr, H, listed, a, w, hr, hs, hf, hl, hh => by
    obtain ⟨g1, g2⟩ := lowGs_get h1
    simp only [Array.length_toList] at g1
    simp only [segGo, Option.ite_none_right_eq_some, Option.map_eq_some_iff, Bool.and_eq_true, decide_eq_true_eq, List.all_eq_true, List.mem_filter, Bool.not_eq_true', and_imp, Prod.forall] at h
    obtain ⟨⟨⟨⟨hc1, hc2⟩, hcut⟩, hfree⟩, segs', hseg, rfl⟩ := h
    have hwl : ((gs.drop l0).take (c - l0)).length = c - l0 := by simp; omega
    generalize hws : (gs.drop l0).take (c - l0) = ws at hr hfree hwl
    have hlow : ∀ (k : Nat) (o : Oper), k < ws.length → ops[l0 + k]? = some o → ∃ g : GOp, ws[k]? = some g ∧ lowOp P o = some g.op ∧ g.dst = o.dst ∧ (∀ x, o.dst = some x → x < n) ∧
        (match o.guard with | none => g.guard = none | some (j, want) => ∃ d, (ops[j]?).bind (·.dst) = some d ∧ g.guard = some (d, want)) := by
      intro k o hk ho
      obtain ⟨g, q1, q2⟩ := g2 (l0 + k) o (by simpa using ho)
      refine ⟨g, ?_, q2⟩
      rw [← hws, List.getElem?_take, if_pos (by omega), List.getElem?_drop]
      exact q1
    have hnext : ∀ (k : Nat), decide (k < l0 + ws.length) = decide (k < c) := fun k => by rw [hwl, show l0 + (c - l0) = c by omega]
    have hA := ancs_spec hb
    by_cases hsing : ∃ g, ws = [g]
    · -- one operation by itself
      obtain ⟨g, hgs⟩ := hsing
      simp only [RunS, hgs] at hr
      have hw1 : ws.length = 1 := by rw [hgs]; rfl
      have hlt : l0 < ops.size := by omega
      have ho : ops[l0]? = some ops[l0] := Array.getElem?_eq_getElem hlt
      obtain ⟨g', q1, q2, q3, q4, q5⟩ := hlow 0 _ (by omega) ho
      rw [hgs] at q1
      simp only [List.getElem?_cons_zero, Option.some.injEq] at q1
      subst q1
      have hl0 : lst listed l0 = false := by rw [hl]; simp
      have hrd : ∀ i, i ∈ Region.ready .any ops listed → i = l0 := by
        intro i hi
        obtain ⟨h1, h2, h3⟩ := (mem_ready' hs).1 hi
        rw [hl] at h1
        simp at h1
        rcases Nat.lt_or_ge i c with hlt | hge
        · omega
        · exfalso
          have := (hA _ _ (cutAt_spec hcut (show l0 < c by omega) hge h2)).2 (lst listed) (fun k hk p hp => by
            rw [hl] at hk ⊢
            have := hb k p hp
            simp at hk ⊢; omega) h3
          rw [hl0] at this; cases this
      have hrdy : l0 ∈ Region.ready .any ops listed := (mem_ready' hs).2 ⟨hl0, hlt, fun p hp => by rw [hl]; have := hb l0 p hp; simpa using this⟩
      obtain ⟨hn, hde, ρ, U, hU, hS, hF, hT⟩ := hh
      have hls := left_set hs hlt hl0
      cases fuel with
      | zero => omega
      | succ fuel =>
        refine ⟨fun hnil => (by rw [hnil] at hrdy; cases hrdy), fun i hi => ?_⟩
        have := hrd i hi
        subst this
        have hset : ∀ k, lst (listed.setIfInBounds i true) k = decide (k < c) := by
          intro k
          rw [lst_set (by omega), hl]
          by_cases hk : k = i
          · subst hk; simp; omega
          · have : (k == i) = false := by simpa using hk
            rw [this, Bool.or_false]
            congr 1
            apply propext
            omega
        unfold wpOp
        rw [ho]
        simp only
        have hgc := guard_cases (c := ⟨ρ, getH H, U, w, M0⟩) hF q5 hr
        rcases hgc with ⟨hw, hy⟩ | ⟨hw, hy⟩
        · rw [if_pos hw]
          refine .inl (stepN_wp (c := ⟨ρ, getH H, U, w, M0⟩) q2 hS rfl hF hU hy ?_)
          intro v r' H' nx' ρ' U' w' hR s0 s1 s2 s3
          refine segs_any h1 hb hQ cs c segs' hseg fuel nx' _ _ _ _ _ hR (by simpa using hs) (by omega) hset ?_
          rw [q3]
          exact Holds.next (c := ⟨ρ, getH H, U, w, M0⟩) hn hde s0 hF hT s1 s2 s3 q4
        · rw [if_neg (by simp [hw])]
          refine segs_any h1 hb hQ cs c segs' hseg fuel (nx + 1) _ _ _ _ _ hy (by simpa using hs) (by omega) hset ?_
          rw [q3]
          exact Holds.next (c := ⟨ρ, getH H, U, w, M0⟩) hn hde (fun b hb => by have := hU b hb; omega) hF hT hS (Cx.le.refl _) (by rw [VR]) q4
    · -- a stretch
      have hr : RunD P nx ws fr H [] fun fr' H' tr => farAll tr ((List.filter (fun p => ((ws.getD p.1 default).op.wr && (ws.getD p.2 default).op.rd) || ((ws.getD p.1 default).op.rd && (ws.getD p.2 default).op.wr)) ((pairsTo ws.length).filter fun p => !bothWays (ancs ops) (l0 + p.1) (l0 + p.2)))) ∧ RunS P (nx + ws.length) segs' fr' H' K := by
        simp only [RunS] at hr
        split at hr
        · exact absurd ⟨_, rfl⟩ hsing
        · exact hr
      obtain ⟨its, tl, l1, l2, ⟨hfar, hK⟩, hall⟩ := runD_res hr
      simp only [List.nil_append] at hfar
      have R : Reg P n ops l0 ws its tl fr H nx := by
        refine ⟨by omega, hlow, l1, hall, hb, fun i j hij hj hbw => hfree i j (mem_pairsTo.2 ⟨hij, by omega⟩) hbw, fun i j hij hj hbw hw => hfar (i, j) ?_⟩
        simp only [List.mem_filter, Bool.not_eq_true']
        refine ⟨⟨mem_pairsTo.2 ⟨hij, by omega⟩, hbw⟩, hw⟩
      obtain ⟨hn, hde, ρ, U, hU, hS, hF, hT⟩ := hh
      refine R.any (w0 := w0) (M0 := M0) (c0 := c0) (lo := lo) (.inr (by rw [hwl, show l0 + (c - l0) = c by omega]; exact hcut)) (fun fuel' listed' a' w' hs' hf' hl' hh' => ?_) fuel listed a w hs hf (fun k hk p hp => ?_) (fun k hk => by rw [hl]; simpa using hk) (fun k hk => by rw [hl]; simp; omega) ?_
      · obtain ⟨p1, p2, ρ', U', hU', hS', hF', hT'⟩ := hh'
        refine segs_any h1 hb hQ cs c segs' hseg fuel' (nx + ws.length) _ _ listed' a' w' hK hs' hf' (fun k => by rw [hl', hnext]) ⟨p1, p2, ρ', U', fun b hb => ?_, hS', hF', hT'⟩
        rcases hU' b hb with h | ⟨j, hj, rfl⟩
        · omega
        · simp at hj; omega
      · rw [hl] at hk ⊢
        have := hb k p hp
        simp at hk ⊢; omega
      · have e0 : (fun k => lst listed (l0 + k)) = fun _ => false := by
          funext k
          rw [hl]; simp
        rw [e0, apF_none, apH_none]
        exact ⟨hn, hde, ρ, U, fun b hb => .inl (hU b hb), hS, hF, hT⟩

theorem WL.drawn {segs : List Seg} {Q : QT} (h : RunS P nx segs fr H (fun fr' H' nx' => Q .normal fr' H' nx')) : WL P n lo (.drawn segs) fr H nx Q := by
  intro code hc w0 M0 c0 a w hh
  have : ∃ id ops gs, code = .region id ops true ∧ lowGs P n ops ops.toList = some gs ∧ drawOk ops gs = some segs ∧ P.follows .mixedOrders = true := by
    cases code <;> simp only [lowCode] at hc
    case region id ops draw =>
      split at hc
      · rename_i gs' h1
        cases draw with
        | false => simp at hc
        | true =>
          simp only [if_true, Option.ite_none_right_eq_some, Option.map_eq_some_iff, LC.drawn.injEq] at hc
          obtain ⟨hm, ps', h2, rfl⟩ := hc
          exact ⟨id, ops, gs', rfl, h1, h2, hm⟩
      · simp at hc
    all_goals (exfalso; repeat' (split at hc)) <;> simp at hc
  obtain ⟨id, ops, gs, rfl, h1, h2, hm⟩ := this
  unfold drawOk at h2
  simp only [Option.ite_none_right_eq_some, List.all_eq_true, List.mem_range, decide_eq_true_eq] at h2
  obtain ⟨hb, hseg⟩ := h2
  have hb' : ∀ k, ∀ p ∈ preds ops k, p < k := by
    intro k p hp
    by_cases hk : k < ops.size
    · exact hb k hk p hp
    · simp [preds, Array.getElem?_eq_none (Nat.le_of_not_lt hk)] at hp
  refine wp_region_any hm ?_
  obtain ⟨hn, hd, ρ, U, hU, hS, hF, hT⟩ := hh
  have hbl : Below w.heap.size w { w with drawn := w.drawn + 1 } := ⟨rfl, rfl, rfl, Nat.le_refl _, fun _ _ => rfl⟩
  obtain ⟨s1, s2⟩ := hS.world (w' := { w with drawn := w.drawn + 1 }) hbl
  have e0 : ∀ k, lst (Array.replicate ops.size false) k = false := by
    intro k
    unfold lst
    by_cases hk : k < ops.size <;> simp [Array.getD, hk]
  refine segs_any h1 hb' (K := fun fr H nx => Q .normal fr H nx) (w0 := w0) (M0 := M0) (c0 := c0) (lo := lo) (fun fr' H' nx' a' w' hK hh' => ⟨.normal, fr', H', nx', rfl, hK, hh'⟩) _ 0 segs hseg ops.size nx fr H _ a _ h (by simp) ?_ (fun k => by rw [e0]; simp) ?_
  · unfold left
    rw [List.filter_eq_self.2 (by simp [e0])]; simp
  · exact ⟨hn, hd, ρ, U, hU, s1, fun t => VR.keep s2 (hF t), hT.to s2⟩
end
end Go.Abs
