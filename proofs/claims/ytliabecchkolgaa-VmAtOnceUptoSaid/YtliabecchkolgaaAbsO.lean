/- The rule for a region that draws its order. -/
import Derived.Test.YtliabecchkolgaaAbsN
namespace Go.Abs
open Go.RowKit

section
variable {P : Program}

theorem ev_congr {fr fr' : Fr} {x : Opd} (h : ∀ t ∈ opdTs x, getF fr t = getF fr' t) : ev fr x = ev fr' x := by
  cases x <;> first | rfl | exact h _ (by simp [opdTs])
theorem evL_congr {fr fr' : Fr} : ∀ {xs : List Opd}, (∀ t ∈ xs.flatMap opdTs, getF fr t = getF fr' t) → evL fr xs = evL fr' xs
  | [], _ => rfl
  | x :: xs, h => by
    simp only [evL]
    rw [ev_congr fun t ht => h t (by simp [ht]), evL_congr fun t ht => h t (by
      simp only [List.flatMap_cons, List.mem_append]; exact .inr ht)]
theorem evP_congr {fr fr' : Fr} : ∀ {ps : List (Nat × Nat × Opd)}, (∀ t ∈ (ps.map (·.2.2)).flatMap opdTs, getF fr t = getF fr' t) → evP fr ps = evP fr' ps
  | [], _ => rfl
  | (i, j, x) :: ps, h => by
    simp only [evP]
    rw [ev_congr fun t ht => h t (by simp [ht]), evP_congr fun t ht => h t (by
      simp only [List.map_cons, List.flatMap_cons, List.mem_append]; exact .inr ht)]
theorem evQ_congr {fr fr' : Fr} : ∀ {ps : List (Nat × Opd)}, (∀ t ∈ (ps.map (·.2)).flatMap opdTs, getF fr t = getF fr' t) → evQ fr ps = evQ fr' ps
  | [], _ => rfl
  | (i, x) :: ps, h => by
    simp only [evQ]
    rw [ev_congr fun t ht => h t (by simp [ht]), evQ_congr fun t ht => h t (by
      simp only [List.map_cons, List.flatMap_cons, List.mem_append]; exact .inr ht)]

theorem lookA_congr {H H' : Hp} {x : AV} (h : ∀ b ∈ idsA x, getH H b = getH H' b) : lookA H x = lookA H' x := by
  cases x <;> simp only [lookA]
  rw [h _ (by simp [idsA])]
theorem lenA_congr {H H' : Hp} {x : AV} (h : ∀ b ∈ idsA x, getH H b = getH H' b) : lenA H x = lenA H' x := by
  unfold lenA
  split <;> first | rfl | (rw [h _ (by simp [idsA])])
theorem elemsA_congr {H H' : Hp} {x : AV} (h : ∀ b ∈ idsA x, getH H b = getH H' b) : elemsA H x = elemsA H' x := by
  unfold elemsA
  split <;> first | rfl | (rw [h _ (by simp [idsA])])
theorem szA_congr {H H' : Hp} {x : AV} {k : Nat} (h : ∀ b ∈ idsA x, getH H b = getH H' b) : szA H k x = szA H' k x := by
  unfold szA
  split <;> first | rfl | (rw [h _ (by simp [idsA])])
theorem iaA_congr {H H' : Hp} {x i : AV} {k : Nat} {n : Option Nat} (h : ∀ b ∈ idsA x, getH H b = getH H' b) : iaA H k n x i = iaA H' k n x i := by
  unfold iaA
  split
  · split
    · split <;> first | rfl | (rw [h _ (by simp [idsA])])
    · split <;> first | rfl | (rw [h _ (by simp [idsA])])
  · rfl

theorem nilA_congr {H H' : Hp} {x : AV} (h : ∀ b ∈ idsA x, getH H b = getH H' b) : nilA H x = nilA H' x := by
  unfold nilA
  split <;> first | rfl | (rw [h _ (by simp [idsA])])
theorem slcA_congr {H H' : Hp} {x : AV} {k : Nat} {lo hi : Option AV} (h : ∀ b ∈ idsA x, getH H b = getH H' b) : slcA H k lo hi x = slcA H' k lo hi x := by
  unfold slcA
  split <;> first | rfl | (rw [h _ (by simp [idsA])])

theorem stepL_congr {id : Nat} {fr fr' : Fr} {H H' : Hp} {op : LOp} (hF : ∀ t ∈ op.opds.flatMap opdTs, getF fr t = getF fr' t) (hH : ∀ b ∈ idsOp fr op, getH H b = getH H' b) : stepL id fr H op = stepL id fr' H' op := by
  cases op
  case bld z ps => simp only [stepL, evP_congr hF]
  case bsl e sz ag z n ps => simp only [stepL, evQ_congr hF]
  case mkf f p q =>
    simp only [LOp.opds, List.flatMap_append, List.mem_append] at hF
    simp only [stepL, evL_congr fun t ht => hF t (.inl ht), evL_congr fun t ht => hF t (.inr ht)]
  case call f as => rfl
  case alloc e sz ag z => rfl
  case slc sz x lo hi =>
    simp only [LOp.opds, List.flatMap_append, List.flatMap_cons, List.flatMap_nil, List.append_nil, List.mem_append] at hF
    have e := ev_congr fun t ht => hF t (.inl (.inl ht))
    have e1 : lo.map (ev fr) = lo.map (ev fr') := by
      cases lo with
      | none => rfl
      | some y => simp only [Option.map_some, Option.some.injEq]; exact ev_congr fun t ht => hF t (.inl (.inr (by simpa using ht)))
    have e2 : hi.map (ev fr) = hi.map (ev fr') := by
      cases hi with
      | none => rfl
      | some y => simp only [Option.map_some, Option.some.injEq]; exact ev_congr fun t ht => hF t (.inr (by simpa using ht))
    simp only [stepL, ← e, ← e1, ← e2]
    rw [slcA_congr fun b hb => hH b (by simp [idsOp, LOp.rd, LOp.opds, hb])]
  all_goals simp only [LOp.opds, List.flatMap_cons, List.flatMap_nil, List.append_nil, List.mem_append] at hF
  case pick a b k =>
    simp only [stepL, ev_congr fun t ht => hF t (.inl ht), ev_congr fun t ht => hF t (.inr (.inl ht)), ev_congr fun t ht => hF t (.inr (.inr ht))]
  case ld ag k x =>
    have e := ev_congr hF
    simp only [stepL, ← e, lookA_congr fun b hb => hH b (by simpa [idsOp, LOp.rd, LOp.opds] using hb)]
  case fa off x =>
    have e := ev_congr hF
    simp only [stepL, ← e]
    split <;> first | rfl | (rename_i hx; rw [hH _ (by simp [idsOp, LOp.rd, LOp.opds, hx, idsA])])
  case len x =>
    have e := ev_congr hF
    simp only [stepL, ← e, lenA_congr fun b hb => hH b (by simpa [idsOp, LOp.rd, LOp.opds] using hb)]
  case nils neg x =>
    have e := ev_congr hF
    simp only [stepL, ← e, nilA_congr fun b hb => hH b (by simpa [idsOp, LOp.rd, LOp.opds] using hb)]
  case cpy sz x y =>
    have e1 := ev_congr fun t ht => hF t (.inl ht)
    have e2 := ev_congr fun t ht => hF t (.inr ht)
    simp only [stepL, ← e1, ← e2, elemsA_congr (x := ev fr y) fun b hb => hH b (by simp [idsOp, LOp.rd, LOp.opds, hb]), szA_congr (x := ev fr y) fun b hb => hH b (by simp [idsOp, LOp.rd, LOp.opds, hb])]
    split <;> first | rfl | (rename_i hx _; rw [hH _ (by simp [idsOp, LOp.rd, LOp.opds, hx, idsA])])
  case st ag k x y =>
    have e1 := ev_congr fun t ht => hF t (.inl ht)
    have e2 := ev_congr fun t ht => hF t (.inr ht)
    simp only [stepL, ← e1, ← e2]
    split <;> first | rfl | (rename_i hx; rw [hH _ (by simp [idsOp, LOp.rd, LOp.opds, hx, idsA])])
  case ia k n x i =>
    have e1 := ev_congr fun t ht => hF t (.inl ht)
    have e2 := ev_congr fun t ht => hF t (.inr ht)
    simp only [stepL, ← e1, ← e2, iaA_congr (x := ev fr x) fun b hb => hH b (by simp [idsOp, LOp.rd, LOp.opds, hb])]
  case app e sz bytes ag z s x =>
    have e1 := ev_congr fun t ht => hF t (.inl ht)
    have e2 := ev_congr fun t ht => hF t (.inr ht)
    simp only [stepL, ← e1, ← e2, elemsA_congr (x := ev fr x) fun b hb => hH b (by simp [idsOp, LOp.rd, LOp.opds, hb]), szA_congr (x := ev fr x) fun b hb => hH b (by simp [idsOp, LOp.rd, LOp.opds, hb])]
    split
    · split
      · split <;> first | rfl | (rename_i hx; rw [hH _ (by simp [idsOp, LOp.rd, LOp.opds, hx, idsA])])
      · rfl
    · rfl
  all_goals first
    | (have e := ev_congr hF; simp only [stepL, e]; done)
    | (have e1 := ev_congr fun t ht => hF t (.inl ht); have e2 := ev_congr fun t ht => hF t (.inr ht); simp only [stepL, e1, e2]; done)

theorem yldOp_congr {id : Nat} {fr fr' : Fr} {H H' : Hp} {op : LOp} {r : AV} {u : Option (Nat × Blk)} {S : List Nat} (hF : ∀ t ∈ op.opds.flatMap opdTs, getF fr t = getF fr' t) (h : YldOp P id fr H op r u S) (hH : ∀ b ∈ S, getH H b = getH H' b) : YldOp P id fr' H' op r u S := by
  by_cases hc : ∃ f as, op = .call f as
  · obtain ⟨f, as, rfl⟩ := hc
    simp only [LOp.opds, List.flatMap_cons, List.mem_append] at hF
    simp only [YldOp] at h ⊢
    rw [← ev_congr fun t ht => hF t (.inl ht), ← evL_congr fun t ht => hF t (.inr ht)]
    unfold PureK at h ⊢
    split
    · rename_i he
      simp only [he] at h
      exact ⟨fun H1 h1 => h.1 H1 fun b hb => (h1 b hb).trans (hH b hb).symm, h.2⟩
    · rename_i hne
      split at h
      · rename_i he; exact absurd he (hne _ _ _)
      · exact h
  · have e : ∀ fr H, YldOp P id fr H op r u S = (stepL id fr H op = some (r, u) ∧ S = idsOp fr op) := by
      intro fr H
      cases op <;> first | rfl | exact absurd ⟨_, _, rfl⟩ hc
    rw [e] at h ⊢
    obtain ⟨h1, h2⟩ := h
    have hi : idsOp fr op = idsOp fr' op := by
      unfold idsOp
      split
      · have : ∀ x ∈ op.opds, ev fr x = ev fr' x := fun x hx => ev_congr fun t ht => hF t (List.mem_flatMap.2 ⟨x, hx, ht⟩)
        have aux : ∀ l : List Opd, (∀ x ∈ l, ev fr x = ev fr' x) → (l.flatMap fun x => idsA (ev fr x)) = l.flatMap fun x => idsA (ev fr' x) := by
          intro l
          induction l with
          | nil => intro _; rfl
          | cons y l ih => intro hl; simp only [List.flatMap_cons]; rw [hl y (by simp), ih fun x hx => hl x (by simp [hx])]
        exact aux _ this
      · rfl
    refine ⟨?_, h2.trans hi⟩
    rw [← stepL_congr hF fun b hb => hH b (by rw [h2]; exact hb)]
    exact h1

/-- What is written is a row that may be written; a new one where nothing is read. -/
theorem yldOp_wr {id : Nat} {fr : Fr} {H : Hp} {op : LOp} {r : AV} {b : Nat} {q : Blk} {S : List Nat} (h : YldOp P id fr H op r (some (b, q)) S) : op.wr = true ∧ (op.rd = false → b = id) := by
  cases op
  case call f as =>
    exact ⟨rfl, fun hr => by cases hr⟩
  case st => exact ⟨rfl, by simp [LOp.rd]⟩
  case cpy => exact ⟨rfl, by simp [LOp.rd]⟩
  case app => exact ⟨rfl, by simp [LOp.rd]⟩
  case alloc =>
    simp only [YldOp, stepL, Option.ite_none_right_eq_some, Option.some.injEq, Prod.mk.injEq] at h
    exact ⟨rfl, fun _ => h.1.2.2.1.symm⟩
  case box =>
    simp only [YldOp, stepL, Option.ite_none_right_eq_some, Option.some.injEq, Prod.mk.injEq] at h
    exact ⟨rfl, fun _ => h.1.2.2.1.symm⟩
  case bsl =>
    simp only [YldOp, stepL, Option.ite_none_right_eq_some, Option.some.injEq, Prod.mk.injEq] at h
    exact ⟨rfl, fun _ => h.1.2.2.1.symm⟩
  case mks =>
    simp only [YldOp, stepL] at h
    split at h
    · simp only [Option.ite_none_right_eq_some, Option.some.injEq, Prod.mk.injEq] at h
      exact ⟨rfl, fun _ => h.1.2.2.1.symm⟩
    · simp at h
  all_goals
    exfalso
    simp only [YldOp, stepL] at h
    revert h
    repeat' split
    all_goals simp [Option.map_eq_some_iff]

/-- Where nothing is read, nothing is written down. -/
theorem yldOp_ids {id : Nat} {fr : Fr} {H : Hp} {op : LOp} {r : AV} {u : Option (Nat × Blk)} {S : List Nat} (h : YldOp P id fr H op r u S) (hr : op.rd = false) : S = [] := by
  cases op
  case call f as => cases hr
  all_goals
    have h2 := h.2
    rw [h2, idsOp, hr]; rfl
/-- Two steps that may be done in either order. -/
def farT (s t : List Nat × Option Nat) : Prop := (∀ b, s.2 = some b → b ∉ t.1) ∧ (∀ b, t.2 = some b → b ∉ s.1) ∧ ∀ b, ¬ (s.2 = some b ∧ t.2 = some b)
def farAll (tr : Tr) (ps : List (Nat × Nat)) : Prop := ∀ p ∈ ps, farT (tr.getD p.1 ([], none)) (tr.getD p.2 ([], none))

theorem lowGs_get {n : Nat} {ops : Array Oper} : ∀ {l : List Oper} {gs : List GOp}, lowGs P n ops l = some gs → gs.length = l.length ∧ ∀ (k : Nat) (o : Oper), l[k]? = some o → ∃ g : GOp, gs[k]? = some g ∧ lowOp P o = some g.op ∧ g.dst = o.dst ∧ (∀ x, o.dst = some x → x < n) ∧
    (match o.guard with | none => g.guard = none | some (j, want) => ∃ d, (ops[j]?).bind (·.dst) = some d ∧ g.guard = some (d, want))
  | [], gs, h => by simp only [lowGs, Option.some.injEq] at h; subst h; simp
  | o :: l, gs, h => by
    simp only [lowGs] at h
    split at h
    · rename_i lop gs' h1 h2
      simp only [Option.ite_none_right_eq_some] at h
      obtain ⟨hd, h⟩ := h
      obtain ⟨e1, e2⟩ := lowGs_get h2
      have hdst : ∀ x, o.dst = some x → x < n := fun x hx => by rw [hx] at hd; simpa using hd
      have key : ∃ gd, gs = ⟨o.dst, gd, lop⟩ :: gs' ∧ (match o.guard with | none => gd = none | some (j, want) => ∃ d, (ops[j]?).bind (·.dst) = some d ∧ gd = some (d, want)) := by
        split at h
        · rename_i hg
          simp only [Option.some.injEq] at h
          exact ⟨none, h.symm, by rw [hg]⟩
        · rename_i j want hg
          split at h
          · rename_i d hd
            simp only [Option.some.injEq] at h
            exact ⟨_, h.symm, by rw [hg]; exact ⟨d, hd, rfl⟩⟩
          · simp at h
      obtain ⟨gd, rfl, hgd⟩ := key
      refine ⟨by simp [e1], fun k o' hk => ?_⟩
      cases k with
      | zero =>
        simp at hk
        subst hk
        exact ⟨_, rfl, h1, rfl, hdst, hgd⟩
      | succ k =>
        obtain ⟨g, q1, q2⟩ := e2 k o' (by simpa using hk)
        exact ⟨g, by simpa using q1, q2⟩
    · simp at h

/-- The guard, as the model asks it. -/
theorem guard_cases {c : Cx} {fr : Fr} {a : Act} {o : Oper} {ops : Array Oper} {g : Option (Nat × Bool)} (hF : FR c fr a.tmps)
    (hg : match o.guard with | none => g = none | some (j, want) => ∃ d, (ops[j]?).bind (·.dst) = some d ∧ g = some (d, want)) {A B : Prop} (h : GuardK fr g A B) :
    (Region.wanted o (yielded ops a.tmps) = true ∧ A) ∨ (Region.wanted o (yielded ops a.tmps) = false ∧ B) := by
  cases ho : o.guard with
  | none =>
    rw [ho] at hg
    simp only at hg
    subst hg
    exact .inl ⟨by simp [Region.wanted, ho], h⟩
  | some gd =>
    obtain ⟨j, want⟩ := gd
    rw [ho] at hg
    obtain ⟨d, hdj, rfl⟩ := hg
    simp only [GuardK] at h
    have hfd := hF d
    simp only [Region.wanted, ho, yielded, hdj, Option.bind_some]
    split at h
    · rename_i t ht
      rw [ht, VR] at hfd
      have hsome : a.tmps[d]? = some (.bool t) := by
        rw [Array.getD_eq_getD_getElem?] at hfd
        cases hx : a.tmps[d]? with
        | none => rw [hx] at hfd; cases hfd
        | some y => rw [hx] at hfd; simp at hfd; rw [hfd]
      simp only [hsome]
      by_cases htw : t = want
      · rw [if_pos htw] at h; exact .inl ⟨by simp [htw], h⟩
      · rw [if_neg htw] at h; exact .inr ⟨by simp [htw], h⟩
    · rename_i u hu ht
      rw [ht, VR] at hfd
      have hno : ∀ t, a.tmps[d]? ≠ some (.bool t) := by
        intro t hx
        rw [Array.getD_eq_getD_getElem?, hx] at hfd
        exact hu t hfd.symm
      refine .inr ⟨?_, h⟩
      split
      · rename_i b hb; exact absurd hb (hno b)
      · simp
    · exact h.elim

/-- What is asked ahead holds of all that has come up. -/
def AncOk (pr : Nat → List Nat) (acc : List Nat) : Prop :=
  ∀ j i, (acc.getD j 0).testBit i = true → i < j ∧ ∀ L : Nat → Bool, (∀ k, L k = true → ∀ p ∈ pr k, L p = true) → (∀ p ∈ pr j, L p = true) → L i = true
theorem anc1_spec {acc : List Nat} {i : Nat} : ∀ {ps : List Nat}, (anc1 acc ps).testBit i = true → ∃ p ∈ ps, p = i ∨ (acc.getD p 0).testBit i = true
  | [], h => by simp [anc1] at h
  | p :: r, h => by
    simp only [anc1, Nat.testBit_or, Bool.or_eq_true] at h
    rcases h with h | h | h
    · rw [Nat.testBit_shiftLeft] at h
      simp only [Bool.and_eq_true, decide_eq_true_eq, ge_iff_le] at h
      refine ⟨p, by simp, .inl ?_⟩
      have h2 := h.2
      by_cases he : i - p = 0
      · omega
      · rw [Nat.testBit_one_eq_true_iff_self_eq_zero] at h2; omega
    · exact ⟨p, by simp, .inr h⟩
    · obtain ⟨q, hq, h⟩ := anc1_spec h
      exact ⟨q, by simp [hq], h⟩
theorem ancL_spec {pr : Nat → List Nat} (hb : ∀ k, ∀ p ∈ pr k, p < k) : ∀ (l : List (List Nat)) (acc : List Nat), AncOk pr acc → (∀ k ps, l[k]? = some ps → ps = pr (acc.length + k)) → AncOk pr (ancL l acc)
  | [], acc, h, _ => h
  | ps :: l, acc, h, hl => by
    simp only [ancL]
    refine ancL_spec hb l _ ?_ fun k qs hk => ?_
    · intro j i hj
      by_cases hlt : j < acc.length
      · have e : (acc ++ [anc1 acc ps]).getD j 0 = acc.getD j 0 := by simp [List.getD, List.getElem?_append_left hlt]
        rw [e] at hj
        exact h j i hj
      · by_cases he : j = acc.length
        · subst he
          have e : (acc ++ [anc1 acc ps]).getD acc.length 0 = anc1 acc ps := by simp [List.getD]
          rw [e] at hj
          obtain ⟨p, hp, hor⟩ := anc1_spec hj
          have hps := hl 0 ps rfl
          simp only [Nat.add_zero] at hps
          rw [hps] at hp
          have hpl := hb _ p hp
          rcases hor with rfl | hor
          · exact ⟨hpl, fun L _ h2 => h2 _ hp⟩
          · obtain ⟨g1, g2⟩ := h p i hor
            exact ⟨by omega, fun L h1 h2 => g2 L h1 (h1 p (h2 p hp))⟩
        · have e : (acc ++ [anc1 acc ps]).getD j 0 = 0 := by
            simp only [List.getD]
            rw [List.getElem?_eq_none (by simp; omega)]
            rfl
          rw [e] at hj
          simp at hj
    · have := hl (k + 1) qs (by simpa using hk)
      rw [this]
      simp only [List.length_append, List.length_cons, List.length_nil]
      congr 1
      omega
theorem ancs_spec {ops : Array Oper} (hb : ∀ k, ∀ p ∈ preds ops k, p < k) : AncOk (preds ops) (ancs ops) :=
  ancL_spec hb _ [] (fun j i h => by simp at h) fun k ps h => by
    simp only [List.getElem?_map, Option.map_eq_some_iff] at h
    obtain ⟨k', hk, rfl⟩ := h
    have := List.getElem?_eq_some_iff.1 hk
    obtain ⟨h1, h2⟩ := this
    simp at h2
    simp [h2]
theorem cutAt_spec {an : List Nat} {N k i j : Nat} (h : cutAt an N k = true) (hi : i < k) (hk : k ≤ j) (hj : j < N) : bothWays an i j = true := by
  simp only [cutAt, List.all_eq_true, List.mem_range, beq_iff_eq] at h
  have h1 := h (j - k) (by omega)
  rw [show k + (j - k) = j by omega] at h1
  have h2 : ((an.getD j 0) % 2 ^ k).testBit i = true := by rw [h1, Nat.testBit_two_pow_sub_one]; simpa using hi
  rw [Nat.testBit_mod_two_pow] at h2
  simp only [Bool.and_eq_true] at h2
  exact h2.2
end
end Go.Abs
