/- Each store drained right behind it. -/
import Derived.Test.YtliabecchkolgaaVs
import Derived.Test.YtliabecchkolgaaVa
namespace Go.Proofs.Ytliabecchkolgaa
open Go Go.Abs Go.Proofs
set_option linter.unusedSimpArgs false
set_option linter.unusedVariables false
theorem askLoad {k a : Int} {n1 n2 : Nat} {W : Prop} {c : Int} {b : Bool} (h : k = c → 0 ≤ a ∧ a < n1 ∧ W) (he : n1 = n2) (hg : (b && decide (k = c)) = true) : 0 ≤ a ∧ a < n2 := by
  have h1 := h (of_decide_eq_true (Bool.and_eq_true_iff.1 hg).2)
  omega
theorem askOff {b c : Bool} {P : Prop} (hc : c = false) (hg : (b && c) = true) : P := by
  rw [hc, Bool.and_false] at hg; cases hg
theorem drain_prints (o : Obj) (s : Mach) (k : Int) : (drainS o s k).1.prints = s.prints := by
  rw [drainS]
  repeat' split
  all_goals simp [Mach.setCore]
theorem unGo {p : Prop} (h : Go p) : p := h
set_option maxHeartbeats 20000000 in
set_option maxRecDepth 200000 in
theorem atOnce_pure {o : Obj} (ho : o.Wf) (h : objOk o = true) (ks : List Int) (hks : ks.length * 16 + 16 ≤ 140737488355328) : Pure Try.prog 3 [o.av, .im 1 .any (ks.map i64)] (fun r => r = bl true) := by
  refine Go.pure Try.func3 nm3 low3 res3 nt3 rfl ?_
  repeat' (first
    | ((with_reducible refine Go.red ?_); conv => whnf)
    | (with_reducible refine Go.and ?_ ?_)
    | (with_reducible exact True.intro)
    | (with_reducible refine Go.far ?_)
    | ((with_reducible refine Apt.mk ?_); (try dsimp only); omega)
    | ((with_reducible refine Ask.mk ?_); first | exact aAsk | exact aAsk2)
    | ((with_reducible refine Go.ari64 ?_ ?_ ?_); (· exact aBnd); (· exact aBnd))
    | ((with_reducible refine Go.ariu8 ?_ ?_ ?_); (· exact aBnd); (· exact aBnd))
    | (with_reducible refine Go.ari0 ?_)
    | (apply Go.elem; (· exact aElem))
    | (apply Go.row; (· exact aRow))
    | (apply Go.gives; (· exact aGives))
    | (apply Go.gives; (· exact aRes))
    | (with_reducible refine Go.unroll ?_)
    | ((with_reducible refine Go.callW (begins_pure) ?_ ?_); (· exact aFit))
    | ((with_reducible refine Go.callJ (fun _ => begins_pure) ?_ ?_); (· exact aFit))
    | ((with_reducible refine Go.callE (begins_pure) ?_ ?_); (· exact aFit))
    | ((with_reducible refine Go.callF (fun _ => begins_pure) ?_ ?_); (· exact aFit))
    | (refine Go.gt rfl ?_)
    | (refine Go.gf rfl ?_)
    | (with_reducible refine Go.join ?_)
    | (refine Go.lt' rfl ?_)
    | (refine Go.lf' rfl ?_)
    | ((with_reducible refine Go.bool ?_ ?_) <;> intro hc <;> (try simp only [List.length_map, ne_eq, hcs] at hc) <;> try (exfalso; omega))
    | ((with_reducible refine Res.eq ?_ ?_); (· exact aFit)))
  refine Go.callN (made_ok ho h) ?_
  rintro _ H2 n2 ⟨L, rfl, hM, h1, h2, h3⟩
  have ok := objOk_ok h
  have hml := ok.mem
  have e0 : getH H2 0 = some (.row 25 5 .any [o.av]) := (h3 0 (by omega)).trans rfl
  have hn4 : 4 ≤ n2 := by omega
  have hL7 : n2 + 7 ∉ L.ids := fun hm => by have := hM.lt _ hm; omega
  clear h3
  repeat' (first
    | ((with_reducible refine Go.red ?_); conv => whnf)
    | (with_reducible refine Go.and ?_ ?_)
    | (with_reducible exact True.intro)
    | (with_reducible refine Go.far ?_)
    | ((with_reducible refine Apt.mk ?_); (try dsimp only); omega)
    | ((with_reducible refine Ask.mk ?_); first | exact aAsk | exact aAsk2)
    | ((with_reducible refine Go.ari64 ?_ ?_ ?_); (· exact aBnd); (· exact aBnd))
    | ((with_reducible refine Go.ariu8 ?_ ?_ ?_); (· exact aBnd); (· exact aBnd))
    | (with_reducible refine Go.ari0 ?_)
    | (apply Go.elem; (· exact aElem))
    | (apply Go.row; (· exact aRow))
    | (apply Go.gives; (· exact aGives))
    | (apply Go.gives; (· exact aRes))
    | (with_reducible refine Go.unroll ?_)
    | (refine Go.gt rfl ?_)
    | (refine Go.gf rfl ?_)
    | (with_reducible refine Go.join ?_)
    | (refine Go.lt' rfl ?_)
    | (refine Go.lf' rfl ?_)
    | ((with_reducible refine Go.bool ?_ ?_) <;> intro hc <;> (try simp only [List.length_map, ne_eq, hcs] at hc) <;> try (exfalso; omega))
    | ((with_reducible refine Res.eq ?_ ?_); (· exact aFit)))
  refine Go.loop (fun i : Nat => [(1, .im 1 .any (ks.map i64)), (5, .pt L.m 1 0 0), (7, .sl (n2 + 7) o.mem.length), (8, i64 i)]) (fun i H n => i ≤ ks.length ∧ n2 + 8 ≤ n ∧ ∃ s L', L'.m = L.m ∧ MAt o s L' H n ∧ Good o s ∧ Empty s ∧ s.prints.length ≤ i ∧ (∃ d, getH H (n2 + 7) = some (.row 2 1 d (s.mem.map i64))) ∧ n2 + 7 ∉ L'.ids) (fun i => ks.length - i) 0 aLess ⟨Nat.zero_le _, aNx, initM o, L, rfl, hM.keep aKeep aNx, good_init ok, empty_init o, Nat.zero_le _, ⟨_, aRow⟩, hL7⟩ ?_
  rintro i H n ⟨hi, hn, s, L', hLm, hM', g, he, hpr, ⟨dm, rm⟩, ho7⟩
  rw [← hLm]
  clear hM h2 e0 hL7 h1
  repeat' (first
    | ((with_reducible refine Go.red ?_); conv => whnf)
    | (with_reducible refine Go.and ?_ ?_)
    | (with_reducible exact True.intro)
    | (with_reducible refine Go.far ?_)
    | ((with_reducible refine Apt.mk ?_); (try dsimp only); omega)
    | ((with_reducible refine Ask.mk ?_); first | exact aAsk | exact aAsk2)
    | ((with_reducible refine Go.ari64 ?_ ?_ ?_); (· exact aBnd); (· exact aBnd))
    | ((with_reducible refine Go.ariu8 ?_ ?_ ?_); (· exact aBnd); (· exact aBnd))
    | (with_reducible refine Go.ari0 ?_)
    | (apply Go.elem; (· exact aElem))
    | (apply Go.row; (· exact aRow))
    | (apply Go.gives; (· exact aGives))
    | (apply Go.gives; (· exact aRes))
    | (with_reducible refine Go.unroll ?_)
    | (refine Go.gt rfl ?_)
    | (refine Go.gf rfl ?_)
    | (with_reducible refine Go.join ?_)
    | (refine Go.lt' rfl ?_)
    | (refine Go.lf' rfl ?_)
    | ((with_reducible refine Go.bool ?_ ?_) <;> intro hc <;> (try simp only [List.length_map, ne_eq, hcs] at hc) <;> try (exfalso; omega))
    | ((with_reducible refine Res.eq ?_ ?_); (· exact aFit)))
  · refine Go.callN (run_call (hM'.keep aKeep aNx) g ok (by omega) _) ?_
    rintro _ H3 n3 ⟨rfl, hn3, ⟨L3, hM3, hmv⟩, hfr3⟩
    have hn4' : n + 9 ≤ n3 := Nat.le_trans aNx hn3
    have rm3 : getH H3 (n2 + 7) = some (.row 2 1 dm (s.mem.map i64)) := (hfr3 _ aNx ho7).trans aRow
    have hids : ∀ b, b ∈ L3.ids → b ∈ L'.ids ∨ n ≤ b := fun b hb => (hmv.ids b hb).imp id (fun hh => Nat.le_trans aNx hh)
    have hmm := hmv.m
    clear hfr3 hmv hn3
    by_cases hk : out s (ks.getD i default)
    · have hr : runS o s (ks.getD i default) = (s, did0, 180) := by rw [runS, if_pos hk]
      rw [Int.toNat_natCast, hr] at hM3 ⊢
      rw [← hmm]
      repeat' (first
          | ((with_reducible refine Go.red ?_); conv => whnf)
          | (with_reducible refine Go.and ?_ ?_)
          | (with_reducible exact True.intro)
          | (with_reducible refine Go.far ?_)
          | ((with_reducible refine Apt.mk ?_); (try dsimp only); omega)
          | ((with_reducible refine Ask.mk ?_); first | exact aAsk | exact aAsk2)
          | ((with_reducible refine Go.ari64 ?_ ?_ ?_); (· exact aBnd); (· exact aBnd))
          | ((with_reducible refine Go.ariu8 ?_ ?_ ?_); (· exact aBnd); (· exact aBnd))
          | (with_reducible refine Go.ari0 ?_)
          | (apply Go.elem; (· exact aElem))
          | (apply Go.row; (· exact aRow))
          | (apply Go.gives; (· exact aGives))
          | (apply Go.gives; (· exact aRes))
          | (with_reducible refine Go.unroll ?_)
          | (refine Go.gt rfl ?_)
          | (refine Go.gf rfl ?_)
          | (with_reducible refine Go.join ?_)
          | (refine Go.lt' rfl ?_)
          | (refine Go.lf' rfl ?_)
          | ((with_reducible refine Go.bool ?_ ?_) <;> intro hc <;> (try simp only [List.length_map, ne_eq, hcs] at hc) <;> try (exfalso; omega))
          | ((with_reducible refine Res.eq ?_ ?_); (· exact aFit)))
      refine Go.viewF L3.ids (fun _ => cores_pure o s) (fun H9 h9 => ?_) (by simp [fitL, fit_frozen]) trivial ?_
      · show [Abs.frz H9 6 (.pt L3.m 1 0 0)] = _
        rw [((hM3.keep aKeep (Nat.le_refl _)).keepIds h9 (Nat.le_refl _)).frz]
      refine Eq.mpr (nsW_eq L3.ids _) (unGo ?_)
      repeat' (first
          | ((with_reducible refine Go.red ?_); conv => whnf)
          | (with_reducible refine Go.and ?_ ?_)
          | (with_reducible exact True.intro)
          | (with_reducible refine Go.far ?_)
          | ((with_reducible refine Apt.mk ?_); (try dsimp only); omega)
          | ((with_reducible refine Ask.mk ?_); first | exact aAsk | exact aAsk2)
          | ((with_reducible refine Go.ari64 ?_ ?_ ?_); (· exact aBnd); (· exact aBnd))
          | ((with_reducible refine Go.ariu8 ?_ ?_ ?_); (· exact aBnd); (· exact aBnd))
          | (with_reducible refine Go.ari0 ?_)
          | (apply Go.elem; (· exact aElem))
          | (apply Go.row; (· exact aRow))
          | (apply Go.gives; (· exact aGives))
          | (apply Go.gives; (· exact aRes))
          | (with_reducible refine Go.unroll ?_)
          | (refine Go.gt rfl ?_)
          | (refine Go.gf rfl ?_)
          | (with_reducible refine Go.join ?_)
          | (refine Go.lt' rfl ?_)
          | (refine Go.lf' rfl ?_)
          | ((with_reducible refine Go.bool ?_ ?_) <;> intro hc <;> (try simp only [List.length_map, ne_eq, hcs] at hc) <;> try (exfalso; omega))
          | ((with_reducible refine Res.eq ?_ ?_); (· exact aFit)))
      · have ho8 : n2 + 7 ∉ L3.ids := fun hm => (hids _ hm).elim ho7 (fun hh => by omega)
        exact ⟨i + 1, by omega, aLess, by omega, aNx, s, L3, rfl, hM3.keep aKeep aNx, g, he, by omega, ⟨_, aRow⟩, ho8⟩
      · unfold out at hk; omega
    · have hq : (ks.getD i default).toNat < s.cores.length := by unfold out at hk; omega
      have hkq : ks.getD i default = ((ks.getD i default).toNat : Int) := by unfold out at hk; omega
      have hR := round_in g ok he hq
      rw [← hkq] at hR
      have g3 := g.run ok (ks.getD i default)
      have hp3 := prints_run o s (ks.getD i default)
      rw [Int.toNat_natCast] at hM3 ⊢
      rw [← hmm]
      generalize runS o s (ks.getD i default) = r3 at *
      obtain ⟨s3, d3, e3⟩ := r3
      simp only at hR hM3 g3 hp3 ⊢
      have hcl : s3.cores.length = s.cores.length := g3.n.trans g.n.symm
      obtain ⟨rfl, hown, hload, hstore, hswap, hemp, hkd, hmem⟩ := hR
      have hlt : ¬ (ks.getD i default < 0) := by unfold out at hk; omega
      have hlt2 : ks.getD i default < s3.cores.length := by unfold out at hk; omega
      have hgm := g.mem
      have ho8 : n2 + 7 ∉ L3.ids := fun hm => (hids _ hm).elim ho7 (fun hh => by omega)
      obtain ⟨kind, cr, pc, addr, word, put, own⟩ := d3
      simp only at hown hload hstore hswap hmem hkd
      subst hown
      repeat' (first
          | ((with_reducible refine Go.red ?_); conv => whnf)
          | (with_reducible refine Go.and ?_ ?_)
          | (with_reducible exact True.intro)
          | (with_reducible refine Go.far ?_)
          | ((with_reducible refine Apt.mk ?_); (try dsimp only); omega)
          | ((with_reducible refine Ask.mk ?_); first | exact aAsk | exact aAsk2)
          | ((with_reducible refine Go.ari64 ?_ ?_ ?_); (· exact aBnd); (· exact aBnd))
          | ((with_reducible refine Go.ariu8 ?_ ?_ ?_); (· exact aBnd); (· exact aBnd))
          | (with_reducible refine Go.ari0 ?_)
          | (apply Go.elem; (· exact aElem))
          | (apply Go.row; (· exact aRow))
          | (apply Go.gives; (· exact aGives))
          | (apply Go.gives; (· exact aRes))
          | (with_reducible refine Go.unroll ?_)
          | (refine Go.gt rfl ?_)
          | (refine Go.gf rfl ?_)
          | (with_reducible refine Go.join ?_)
          | (refine Go.lt' rfl ?_)
          | (refine Go.lf' rfl ?_)
          | ((with_reducible refine Go.bool ?_ ?_) <;> intro hc <;> (try simp only [List.length_map, ne_eq, hcs] at hc) <;> try (exfalso; omega))
          | ((with_reducible refine Res.eq ?_ ?_); (· exact aFit)))
      refine Go.viewF L3.ids (fun _ => cores_pure o s3) (fun H9 h9 => ?_) (by simp [fitL, fit_frozen]) trivial ?_
      · show [Abs.frz H9 6 (.pt L3.m 1 0 0)] = _
        rw [((hM3.keep aKeep (Nat.le_refl _)).keepIds h9 (Nat.le_refl _)).frz]
      refine Eq.mpr (nsW_eq L3.ids _) (unGo ?_)
      have hk4 : kind = 2 ∨ kind = 3 ∨ kind = 4 ∨ kind = 0 ∨ kind = 1 ∨ kind = 5 ∨ kind = 6 ∨ kind = 7 := by omega
      rcases hk4 with rfl | rfl | rfl | rfl | rfl | rfl | rfl | rfl
      · repeat' (first
            | ((with_reducible refine Go.red ?_); conv => whnf)
            | (with_reducible refine Go.and ?_ ?_)
            | (with_reducible exact True.intro)
            | (with_reducible refine Go.far ?_)
            | ((with_reducible refine Apt.mk ?_); (try dsimp only); omega)
            | ((with_reducible refine Ask.mk ?_); first | exact aAsk | exact fun hg => askLoad hload hgm hg | exact fun hg => askOff (c := decide ((2 : Int) = 4)) rfl hg | exact fun _ h => absurd (of_decide_eq_true h) (show ¬ (2 : Int) = 4 by decide) | exact ⟨(List.length_map _).trans hgm, rfl⟩ | exact aAsk2)
            | ((with_reducible refine Go.ari64 ?_ ?_ ?_); (· exact aBnd); (· exact aBnd))
            | ((with_reducible refine Go.ariu8 ?_ ?_ ?_); (· exact aBnd); (· exact aBnd))
            | (with_reducible refine Go.ari0 ?_)
            | (apply Go.elem; (· exact aElem))
            | (apply Go.row; (· exact aRow))
            | (apply Go.gives; (· exact aGives))
            | (apply Go.gives; (· exact aRes))
            | (with_reducible refine Go.unroll ?_)
            | (refine Go.gt rfl ?_)
            | (refine Go.gf rfl ?_)
            | (with_reducible refine Go.join ?_)
            | (refine Go.lt' rfl ?_)
            | (refine Go.lf' rfl ?_)
            | ((with_reducible refine Go.bool ?_ ?_) <;> intro hc <;> (try simp only [List.length_map, ne_eq, hcs] at hc) <;> try (exfalso; omega))
            | ((with_reducible refine Res.eq ?_ ?_); (· exact aFit)))
        · exfalso
          have hw : word = s.mem.getD addr.toNat default := (hload rfl).2.2
          rcases hc with (⟨h, _⟩ | ⟨_, h⟩) | ⟨h, _⟩
          · exact h trivial
          · exact h hw
          · exact absurd h (by decide)
        refine Go.callN (drain_call (hM3.keep aKeep aNx) g3 ok _) ?_
        rintro _ H5 n5 ⟨rfl, hn5, ⟨L5, hM5, hmv5⟩, hfr5⟩
        rw [Int.toNat_natCast] at hM5
        have hn6 : n3 ≤ n5 := Nat.le_trans aNx hn5
        have rm5 : getH H5 (n2 + 7) = some (.row 2 1 dm ((drainS o s3 (ks.getD i default)).1.mem.map i64)) := by
          refine (hfr5 _ aNx ho8).trans ?_
          rw [hmem]
          exact aRow
        have hid5 : ∀ b, b ∈ L5.ids → b ∈ L3.ids ∨ n3 ≤ b := fun b hb => (hmv5.ids b hb).imp id (fun hh => Nat.le_trans aNx hh)
        have hm5 := hmv5.m
        clear hfr5 hmv5 hn5
        repeat' (first
            | ((with_reducible refine Go.red ?_); conv => whnf)
            | (with_reducible refine Go.and ?_ ?_)
            | (with_reducible exact True.intro)
            | (with_reducible refine Go.far ?_)
            | ((with_reducible refine Apt.mk ?_); (try dsimp only); omega)
            | ((with_reducible refine Ask.mk ?_); first | exact aAsk | exact aAsk2)
            | ((with_reducible refine Go.ari64 ?_ ?_ ?_); (· exact aBnd); (· exact aBnd))
            | ((with_reducible refine Go.ariu8 ?_ ?_ ?_); (· exact aBnd); (· exact aBnd))
            | (with_reducible refine Go.ari0 ?_)
            | (apply Go.elem; (· exact aElem))
            | (apply Go.row; (· exact aRow))
            | (apply Go.gives; (· exact aGives))
            | (apply Go.gives; (· exact aRes))
            | (with_reducible refine Go.unroll ?_)
            | (refine Go.gt rfl ?_)
            | (refine Go.gf rfl ?_)
            | (with_reducible refine Go.join ?_)
            | (refine Go.lt' rfl ?_)
            | (refine Go.lf' rfl ?_)
            | ((with_reducible refine Go.bool ?_ ?_) <;> intro hc <;> (try simp only [List.length_map, ne_eq, hcs] at hc) <;> try (exfalso; omega))
            | ((with_reducible refine Res.eq ?_ ?_); (· exact aFit)))
        have ho9 : n2 + 7 ∉ L5.ids := fun hm => (hid5 _ hm).elim ho8 (fun hh => by omega)
        exact ⟨i + 1, by omega, aLess, by omega, aNx, (drainS o s3 (ks.getD i default)).1, L5, hm5, hM5.keep aKeep aNx, g3.drain _, hemp, (by rw [drain_prints]; omega), ⟨_, aRow⟩, ho9⟩
      · have hst := hstore rfl
        have hst2 : 0 ≤ addr ∧ addr < o.mem.length := by omega
        repeat' (first
            | ((with_reducible refine Go.red ?_); conv => whnf)
            | (with_reducible refine Go.and ?_ ?_)
            | (with_reducible exact True.intro)
            | (with_reducible refine Go.far ?_)
            | ((with_reducible refine Apt.mk ?_); (try dsimp only); omega)
            | ((with_reducible refine Ask.mk ?_); first | exact aAsk | exact fun hg => askOff (c := decide ((3 : Int) = 2)) rfl hg | exact fun _ h => absurd (of_decide_eq_true h) (show ¬ (3 : Int) = 2 by decide) | exact fun hg => askOff (c := decide ((3 : Int) = 4)) rfl hg | exact fun _ h => absurd (of_decide_eq_true h) (show ¬ (3 : Int) = 4 by decide) | exact ⟨(List.length_map _).trans hgm, rfl⟩ | exact (List.length_map _).trans hgm | exact hst2 | exact aAsk2)
            | ((with_reducible refine Go.ari64 ?_ ?_ ?_); (· exact aBnd); (· exact aBnd))
            | ((with_reducible refine Go.ariu8 ?_ ?_ ?_); (· exact aBnd); (· exact aBnd))
            | (with_reducible refine Go.ari0 ?_)
            | (apply Go.elem; (· exact aElem))
            | (apply Go.row; (· exact aRow))
            | (apply Go.gives; (· exact aGives))
            | (apply Go.gives; (· exact aRes))
            | (with_reducible refine Go.unroll ?_)
            | (refine Go.gt rfl ?_)
            | (refine Go.gf rfl ?_)
            | (with_reducible refine Go.join ?_)
            | (refine Go.lt' rfl ?_)
            | (refine Go.lf' rfl ?_)
            | ((with_reducible refine Go.bool ?_ ?_) <;> intro hc <;> (try simp only [List.length_map, ne_eq, hcs] at hc) <;> try (exfalso; omega))
            | ((with_reducible refine Res.eq ?_ ?_); (· exact aFit)))
        refine Go.callN (drain_call (hM3.keepIds (by intro _b hb; have hne : _b ≠ n2 + 7 := fun he => ho8 (he ▸ hb); have := hM3.lt _b hb; repeat (first | exact rfl | (refine Eq.trans (getH_skipEq (by first | omega | (simp only [List.length_cons, List.length_nil]; omega))) ?_))) aNx) g3 ok _) ?_
        rintro _ H5 n5 ⟨rfl, hn5, ⟨L5, hM5, hmv5⟩, hfr5⟩
        rw [Int.toNat_natCast] at hM5
        have hn6 : n3 ≤ n5 := Nat.le_trans aNx hn5
        have rm5 : getH H5 (n2 + 7) = some (.row 2 1 dm ((drainS o s3 (ks.getD i default)).1.mem.map i64)) := by
          refine (hfr5 _ aNx ho8).trans ?_
          rw [hmem, if_pos rfl, List.map_set]
          exact aRow
        have hid5 : ∀ b, b ∈ L5.ids → b ∈ L3.ids ∨ n3 ≤ b := fun b hb => (hmv5.ids b hb).imp id (fun hh => Nat.le_trans aNx hh)
        have hm5 := hmv5.m
        clear hfr5 hmv5 hn5
        repeat' (first
            | ((with_reducible refine Go.red ?_); conv => whnf)
            | (with_reducible refine Go.and ?_ ?_)
            | (with_reducible exact True.intro)
            | (with_reducible refine Go.far ?_)
            | ((with_reducible refine Apt.mk ?_); (try dsimp only); omega)
            | ((with_reducible refine Ask.mk ?_); first | exact aAsk | exact aAsk2)
            | ((with_reducible refine Go.ari64 ?_ ?_ ?_); (· exact aBnd); (· exact aBnd))
            | ((with_reducible refine Go.ariu8 ?_ ?_ ?_); (· exact aBnd); (· exact aBnd))
            | (with_reducible refine Go.ari0 ?_)
            | (apply Go.elem; (· exact aElem))
            | (apply Go.row; (· exact aRow))
            | (apply Go.gives; (· exact aGives))
            | (apply Go.gives; (· exact aRes))
            | (with_reducible refine Go.unroll ?_)
            | (refine Go.gt rfl ?_)
            | (refine Go.gf rfl ?_)
            | (with_reducible refine Go.join ?_)
            | (refine Go.lt' rfl ?_)
            | (refine Go.lf' rfl ?_)
            | ((with_reducible refine Go.bool ?_ ?_) <;> intro hc <;> (try simp only [List.length_map, ne_eq, hcs] at hc) <;> try (exfalso; omega))
            | ((with_reducible refine Res.eq ?_ ?_); (· exact aFit)))
        have ho9 : n2 + 7 ∉ L5.ids := fun hm => (hid5 _ hm).elim ho8 (fun hh => by omega)
        exact ⟨i + 1, by omega, aLess, by omega, aNx, (drainS o s3 (ks.getD i default)).1, L5, hm5, hM5.keep aKeep aNx, g3.drain _, hemp, (by rw [drain_prints]; omega), ⟨_, aRow⟩, ho9⟩
      · have hst := hswap rfl
        have hst2 : 0 ≤ addr ∧ addr < o.mem.length := by omega
        repeat' (first
            | ((with_reducible refine Go.red ?_); conv => whnf)
            | (with_reducible refine Go.and ?_ ?_)
            | (with_reducible exact True.intro)
            | (with_reducible refine Go.far ?_)
            | ((with_reducible refine Apt.mk ?_); (try dsimp only); omega)
            | ((with_reducible refine Ask.mk ?_); first | exact aAsk | exact fun hg => askOff (c := decide ((4 : Int) = 2)) rfl hg | exact fun _ h => absurd (of_decide_eq_true h) (show ¬ (4 : Int) = 2 by decide) | exact fun hg => askLoad hswap hgm hg | exact ⟨(List.length_map _).trans hgm, rfl⟩ | exact (List.length_map _).trans hgm | exact hst2 | exact aAsk2)
            | ((with_reducible refine Go.ari64 ?_ ?_ ?_); (· exact aBnd); (· exact aBnd))
            | ((with_reducible refine Go.ariu8 ?_ ?_ ?_); (· exact aBnd); (· exact aBnd))
            | (with_reducible refine Go.ari0 ?_)
            | (apply Go.elem; (· exact aElem))
            | (apply Go.row; (· exact aRow))
            | (apply Go.gives; (· exact aGives))
            | (apply Go.gives; (· exact aRes))
            | (with_reducible refine Go.unroll ?_)
            | (refine Go.gt rfl ?_)
            | (refine Go.gf rfl ?_)
            | (with_reducible refine Go.join ?_)
            | (refine Go.lt' rfl ?_)
            | (refine Go.lf' rfl ?_)
            | ((with_reducible refine Go.bool ?_ ?_) <;> intro hc <;> (try simp only [List.length_map, ne_eq, hcs] at hc) <;> try (exfalso; omega))
            | ((with_reducible refine Res.eq ?_ ?_); (· exact aFit)))
        · exfalso
          have hw : word = s.mem.getD addr.toNat default := hst.2.2
          exact absurd hc (by simp [hw])
        refine Go.callN (drain_call (hM3.keepIds (by intro _b hb; have hne : _b ≠ n2 + 7 := fun he => ho8 (he ▸ hb); have := hM3.lt _b hb; repeat (first | exact rfl | (refine Eq.trans (getH_skipEq (by first | omega | (simp only [List.length_cons, List.length_nil]; omega))) ?_))) aNx) g3 ok _) ?_
        rintro _ H5 n5 ⟨rfl, hn5, ⟨L5, hM5, hmv5⟩, hfr5⟩
        rw [Int.toNat_natCast] at hM5
        have hn6 : n3 ≤ n5 := Nat.le_trans aNx hn5
        have rm5 : getH H5 (n2 + 7) = some (.row 2 1 dm ((drainS o s3 (ks.getD i default)).1.mem.map i64)) := by
          refine (hfr5 _ aNx ho8).trans ?_
          rw [hmem, if_neg (by decide), if_pos rfl, List.map_set]
          exact aRow
        have hid5 : ∀ b, b ∈ L5.ids → b ∈ L3.ids ∨ n3 ≤ b := fun b hb => (hmv5.ids b hb).imp id (fun hh => Nat.le_trans aNx hh)
        have hm5 := hmv5.m
        clear hfr5 hmv5 hn5
        repeat' (first
            | ((with_reducible refine Go.red ?_); conv => whnf)
            | (with_reducible refine Go.and ?_ ?_)
            | (with_reducible exact True.intro)
            | (with_reducible refine Go.far ?_)
            | ((with_reducible refine Apt.mk ?_); (try dsimp only); omega)
            | ((with_reducible refine Ask.mk ?_); first | exact aAsk | exact aAsk2)
            | ((with_reducible refine Go.ari64 ?_ ?_ ?_); (· exact aBnd); (· exact aBnd))
            | ((with_reducible refine Go.ariu8 ?_ ?_ ?_); (· exact aBnd); (· exact aBnd))
            | (with_reducible refine Go.ari0 ?_)
            | (apply Go.elem; (· exact aElem))
            | (apply Go.row; (· exact aRow))
            | (apply Go.gives; (· exact aGives))
            | (apply Go.gives; (· exact aRes))
            | (with_reducible refine Go.unroll ?_)
            | (refine Go.gt rfl ?_)
            | (refine Go.gf rfl ?_)
            | (with_reducible refine Go.join ?_)
            | (refine Go.lt' rfl ?_)
            | (refine Go.lf' rfl ?_)
            | ((with_reducible refine Go.bool ?_ ?_) <;> intro hc <;> (try simp only [List.length_map, ne_eq, hcs] at hc) <;> try (exfalso; omega))
            | ((with_reducible refine Res.eq ?_ ?_); (· exact aFit)))
        have ho9 : n2 + 7 ∉ L5.ids := fun hm => (hid5 _ hm).elim ho8 (fun hh => by omega)
        exact ⟨i + 1, by omega, aLess, by omega, aNx, (drainS o s3 (ks.getD i default)).1, L5, hm5, hM5.keep aKeep aNx, g3.drain _, hemp, (by rw [drain_prints]; omega), ⟨_, aRow⟩, ho9⟩
      · repeat' (first
            | ((with_reducible refine Go.red ?_); conv => whnf)
            | (with_reducible refine Go.and ?_ ?_)
            | (with_reducible exact True.intro)
            | (with_reducible refine Go.far ?_)
            | ((with_reducible refine Apt.mk ?_); (try dsimp only); omega)
            | ((with_reducible refine Ask.mk ?_); first | exact aAsk | exact fun hg => askOff (c := decide ((0 : Int) = 2)) rfl hg | exact fun _ h => absurd (of_decide_eq_true h) (show ¬ (0 : Int) = 2 by decide) | exact fun hg => askOff (c := decide ((0 : Int) = 4)) rfl hg | exact fun _ h => absurd (of_decide_eq_true h) (show ¬ (0 : Int) = 4 by decide) | exact ⟨(List.length_map _).trans hgm, rfl⟩ | exact (List.length_map _).trans hgm | exact aAsk2)
            | ((with_reducible refine Go.ari64 ?_ ?_ ?_); (· exact aBnd); (· exact aBnd))
            | ((with_reducible refine Go.ariu8 ?_ ?_ ?_); (· exact aBnd); (· exact aBnd))
            | (with_reducible refine Go.ari0 ?_)
            | (apply Go.elem; (· exact aElem))
            | (apply Go.row; (· exact aRow))
            | (apply Go.gives; (· exact aGives))
            | (apply Go.gives; (· exact aRes))
            | (with_reducible refine Go.unroll ?_)
            | (refine Go.gt rfl ?_)
            | (refine Go.gf rfl ?_)
            | (with_reducible refine Go.join ?_)
            | (refine Go.lt' rfl ?_)
            | (refine Go.lf' rfl ?_)
            | ((with_reducible refine Go.bool ?_ ?_) <;> intro hc <;> (try simp only [List.length_map, ne_eq, hcs] at hc) <;> try (exfalso; omega))
            | ((with_reducible refine Res.eq ?_ ?_); (· exact aFit)))
        refine Go.callN (drain_call (hM3.keep aKeep aNx) g3 ok _) ?_
        rintro _ H5 n5 ⟨rfl, hn5, ⟨L5, hM5, hmv5⟩, hfr5⟩
        rw [Int.toNat_natCast] at hM5
        have hn6 : n3 ≤ n5 := Nat.le_trans aNx hn5
        have rm5 : getH H5 (n2 + 7) = some (.row 2 1 dm ((drainS o s3 (ks.getD i default)).1.mem.map i64)) := by
          refine (hfr5 _ aNx ho8).trans ?_
          rw [hmem, if_neg (by decide), if_neg (by decide)]
          exact aRow
        have hid5 : ∀ b, b ∈ L5.ids → b ∈ L3.ids ∨ n3 ≤ b := fun b hb => (hmv5.ids b hb).imp id (fun hh => Nat.le_trans aNx hh)
        have hm5 := hmv5.m
        clear hfr5 hmv5 hn5
        repeat' (first
            | ((with_reducible refine Go.red ?_); conv => whnf)
            | (with_reducible refine Go.and ?_ ?_)
            | (with_reducible exact True.intro)
            | (with_reducible refine Go.far ?_)
            | ((with_reducible refine Apt.mk ?_); (try dsimp only); omega)
            | ((with_reducible refine Ask.mk ?_); first | exact aAsk | exact aAsk2)
            | ((with_reducible refine Go.ari64 ?_ ?_ ?_); (· exact aBnd); (· exact aBnd))
            | ((with_reducible refine Go.ariu8 ?_ ?_ ?_); (· exact aBnd); (· exact aBnd))
            | (with_reducible refine Go.ari0 ?_)
            | (apply Go.elem; (· exact aElem))
            | (apply Go.row; (· exact aRow))
            | (apply Go.gives; (· exact aGives))
            | (apply Go.gives; (· exact aRes))
            | (with_reducible refine Go.unroll ?_)
            | (refine Go.gt rfl ?_)
            | (refine Go.gf rfl ?_)
            | (with_reducible refine Go.join ?_)
            | (refine Go.lt' rfl ?_)
            | (refine Go.lf' rfl ?_)
            | ((with_reducible refine Go.bool ?_ ?_) <;> intro hc <;> (try simp only [List.length_map, ne_eq, hcs] at hc) <;> try (exfalso; omega))
            | ((with_reducible refine Res.eq ?_ ?_); (· exact aFit)))
        have ho9 : n2 + 7 ∉ L5.ids := fun hm => (hid5 _ hm).elim ho8 (fun hh => by omega)
        exact ⟨i + 1, by omega, aLess, by omega, aNx, (drainS o s3 (ks.getD i default)).1, L5, hm5, hM5.keep aKeep aNx, g3.drain _, hemp, (by rw [drain_prints]; omega), ⟨_, aRow⟩, ho9⟩
      · repeat' (first
            | ((with_reducible refine Go.red ?_); conv => whnf)
            | (with_reducible refine Go.and ?_ ?_)
            | (with_reducible exact True.intro)
            | (with_reducible refine Go.far ?_)
            | ((with_reducible refine Apt.mk ?_); (try dsimp only); omega)
            | ((with_reducible refine Ask.mk ?_); first | exact aAsk | exact fun hg => askOff (c := decide ((1 : Int) = 2)) rfl hg | exact fun _ h => absurd (of_decide_eq_true h) (show ¬ (1 : Int) = 2 by decide) | exact fun hg => askOff (c := decide ((1 : Int) = 4)) rfl hg | exact fun _ h => absurd (of_decide_eq_true h) (show ¬ (1 : Int) = 4 by decide) | exact ⟨(List.length_map _).trans hgm, rfl⟩ | exact (List.length_map _).trans hgm | exact aAsk2)
            | ((with_reducible refine Go.ari64 ?_ ?_ ?_); (· exact aBnd); (· exact aBnd))
            | ((with_reducible refine Go.ariu8 ?_ ?_ ?_); (· exact aBnd); (· exact aBnd))
            | (with_reducible refine Go.ari0 ?_)
            | (apply Go.elem; (· exact aElem))
            | (apply Go.row; (· exact aRow))
            | (apply Go.gives; (· exact aGives))
            | (apply Go.gives; (· exact aRes))
            | (with_reducible refine Go.unroll ?_)
            | (refine Go.gt rfl ?_)
            | (refine Go.gf rfl ?_)
            | (with_reducible refine Go.join ?_)
            | (refine Go.lt' rfl ?_)
            | (refine Go.lf' rfl ?_)
            | ((with_reducible refine Go.bool ?_ ?_) <;> intro hc <;> (try simp only [List.length_map, ne_eq, hcs] at hc) <;> try (exfalso; omega))
            | ((with_reducible refine Res.eq ?_ ?_); (· exact aFit)))
        refine Go.callN (drain_call (hM3.keep aKeep aNx) g3 ok _) ?_
        rintro _ H5 n5 ⟨rfl, hn5, ⟨L5, hM5, hmv5⟩, hfr5⟩
        rw [Int.toNat_natCast] at hM5
        have hn6 : n3 ≤ n5 := Nat.le_trans aNx hn5
        have rm5 : getH H5 (n2 + 7) = some (.row 2 1 dm ((drainS o s3 (ks.getD i default)).1.mem.map i64)) := by
          refine (hfr5 _ aNx ho8).trans ?_
          rw [hmem, if_neg (by decide), if_neg (by decide)]
          exact aRow
        have hid5 : ∀ b, b ∈ L5.ids → b ∈ L3.ids ∨ n3 ≤ b := fun b hb => (hmv5.ids b hb).imp id (fun hh => Nat.le_trans aNx hh)
        have hm5 := hmv5.m
        clear hfr5 hmv5 hn5
        repeat' (first
            | ((with_reducible refine Go.red ?_); conv => whnf)
            | (with_reducible refine Go.and ?_ ?_)
            | (with_reducible exact True.intro)
            | (with_reducible refine Go.far ?_)
            | ((with_reducible refine Apt.mk ?_); (try dsimp only); omega)
            | ((with_reducible refine Ask.mk ?_); first | exact aAsk | exact aAsk2)
            | ((with_reducible refine Go.ari64 ?_ ?_ ?_); (· exact aBnd); (· exact aBnd))
            | ((with_reducible refine Go.ariu8 ?_ ?_ ?_); (· exact aBnd); (· exact aBnd))
            | (with_reducible refine Go.ari0 ?_)
            | (apply Go.elem; (· exact aElem))
            | (apply Go.row; (· exact aRow))
            | (apply Go.gives; (· exact aGives))
            | (apply Go.gives; (· exact aRes))
            | (with_reducible refine Go.unroll ?_)
            | (refine Go.gt rfl ?_)
            | (refine Go.gf rfl ?_)
            | (with_reducible refine Go.join ?_)
            | (refine Go.lt' rfl ?_)
            | (refine Go.lf' rfl ?_)
            | ((with_reducible refine Go.bool ?_ ?_) <;> intro hc <;> (try simp only [List.length_map, ne_eq, hcs] at hc) <;> try (exfalso; omega))
            | ((with_reducible refine Res.eq ?_ ?_); (· exact aFit)))
        have ho9 : n2 + 7 ∉ L5.ids := fun hm => (hid5 _ hm).elim ho8 (fun hh => by omega)
        exact ⟨i + 1, by omega, aLess, by omega, aNx, (drainS o s3 (ks.getD i default)).1, L5, hm5, hM5.keep aKeep aNx, g3.drain _, hemp, (by rw [drain_prints]; omega), ⟨_, aRow⟩, ho9⟩
      · repeat' (first
            | ((with_reducible refine Go.red ?_); conv => whnf)
            | (with_reducible refine Go.and ?_ ?_)
            | (with_reducible exact True.intro)
            | (with_reducible refine Go.far ?_)
            | ((with_reducible refine Apt.mk ?_); (try dsimp only); omega)
            | ((with_reducible refine Ask.mk ?_); first | exact aAsk | exact fun hg => askOff (c := decide ((5 : Int) = 2)) rfl hg | exact fun _ h => absurd (of_decide_eq_true h) (show ¬ (5 : Int) = 2 by decide) | exact fun hg => askOff (c := decide ((5 : Int) = 4)) rfl hg | exact fun _ h => absurd (of_decide_eq_true h) (show ¬ (5 : Int) = 4 by decide) | exact ⟨(List.length_map _).trans hgm, rfl⟩ | exact (List.length_map _).trans hgm | exact aAsk2)
            | ((with_reducible refine Go.ari64 ?_ ?_ ?_); (· exact aBnd); (· exact aBnd))
            | ((with_reducible refine Go.ariu8 ?_ ?_ ?_); (· exact aBnd); (· exact aBnd))
            | (with_reducible refine Go.ari0 ?_)
            | (apply Go.elem; (· exact aElem))
            | (apply Go.row; (· exact aRow))
            | (apply Go.gives; (· exact aGives))
            | (apply Go.gives; (· exact aRes))
            | (with_reducible refine Go.unroll ?_)
            | (refine Go.gt rfl ?_)
            | (refine Go.gf rfl ?_)
            | (with_reducible refine Go.join ?_)
            | (refine Go.lt' rfl ?_)
            | (refine Go.lf' rfl ?_)
            | ((with_reducible refine Go.bool ?_ ?_) <;> intro hc <;> (try simp only [List.length_map, ne_eq, hcs] at hc) <;> try (exfalso; omega))
            | ((with_reducible refine Res.eq ?_ ?_); (· exact aFit)))
        refine Go.callN (drain_call (hM3.keep aKeep aNx) g3 ok _) ?_
        rintro _ H5 n5 ⟨rfl, hn5, ⟨L5, hM5, hmv5⟩, hfr5⟩
        rw [Int.toNat_natCast] at hM5
        have hn6 : n3 ≤ n5 := Nat.le_trans aNx hn5
        have rm5 : getH H5 (n2 + 7) = some (.row 2 1 dm ((drainS o s3 (ks.getD i default)).1.mem.map i64)) := by
          refine (hfr5 _ aNx ho8).trans ?_
          rw [hmem, if_neg (by decide), if_neg (by decide)]
          exact aRow
        have hid5 : ∀ b, b ∈ L5.ids → b ∈ L3.ids ∨ n3 ≤ b := fun b hb => (hmv5.ids b hb).imp id (fun hh => Nat.le_trans aNx hh)
        have hm5 := hmv5.m
        clear hfr5 hmv5 hn5
        repeat' (first
            | ((with_reducible refine Go.red ?_); conv => whnf)
            | (with_reducible refine Go.and ?_ ?_)
            | (with_reducible exact True.intro)
            | (with_reducible refine Go.far ?_)
            | ((with_reducible refine Apt.mk ?_); (try dsimp only); omega)
            | ((with_reducible refine Ask.mk ?_); first | exact aAsk | exact aAsk2)
            | ((with_reducible refine Go.ari64 ?_ ?_ ?_); (· exact aBnd); (· exact aBnd))
            | ((with_reducible refine Go.ariu8 ?_ ?_ ?_); (· exact aBnd); (· exact aBnd))
            | (with_reducible refine Go.ari0 ?_)
            | (apply Go.elem; (· exact aElem))
            | (apply Go.row; (· exact aRow))
            | (apply Go.gives; (· exact aGives))
            | (apply Go.gives; (· exact aRes))
            | (with_reducible refine Go.unroll ?_)
            | (refine Go.gt rfl ?_)
            | (refine Go.gf rfl ?_)
            | (with_reducible refine Go.join ?_)
            | (refine Go.lt' rfl ?_)
            | (refine Go.lf' rfl ?_)
            | ((with_reducible refine Go.bool ?_ ?_) <;> intro hc <;> (try simp only [List.length_map, ne_eq, hcs] at hc) <;> try (exfalso; omega))
            | ((with_reducible refine Res.eq ?_ ?_); (· exact aFit)))
        have ho9 : n2 + 7 ∉ L5.ids := fun hm => (hid5 _ hm).elim ho8 (fun hh => by omega)
        exact ⟨i + 1, by omega, aLess, by omega, aNx, (drainS o s3 (ks.getD i default)).1, L5, hm5, hM5.keep aKeep aNx, g3.drain _, hemp, (by rw [drain_prints]; omega), ⟨_, aRow⟩, ho9⟩
      · repeat' (first
            | ((with_reducible refine Go.red ?_); conv => whnf)
            | (with_reducible refine Go.and ?_ ?_)
            | (with_reducible exact True.intro)
            | (with_reducible refine Go.far ?_)
            | ((with_reducible refine Apt.mk ?_); (try dsimp only); omega)
            | ((with_reducible refine Ask.mk ?_); first | exact aAsk | exact fun hg => askOff (c := decide ((6 : Int) = 2)) rfl hg | exact fun _ h => absurd (of_decide_eq_true h) (show ¬ (6 : Int) = 2 by decide) | exact fun hg => askOff (c := decide ((6 : Int) = 4)) rfl hg | exact fun _ h => absurd (of_decide_eq_true h) (show ¬ (6 : Int) = 4 by decide) | exact ⟨(List.length_map _).trans hgm, rfl⟩ | exact (List.length_map _).trans hgm | exact aAsk2)
            | ((with_reducible refine Go.ari64 ?_ ?_ ?_); (· exact aBnd); (· exact aBnd))
            | ((with_reducible refine Go.ariu8 ?_ ?_ ?_); (· exact aBnd); (· exact aBnd))
            | (with_reducible refine Go.ari0 ?_)
            | (apply Go.elem; (· exact aElem))
            | (apply Go.row; (· exact aRow))
            | (apply Go.gives; (· exact aGives))
            | (apply Go.gives; (· exact aRes))
            | (with_reducible refine Go.unroll ?_)
            | (refine Go.gt rfl ?_)
            | (refine Go.gf rfl ?_)
            | (with_reducible refine Go.join ?_)
            | (refine Go.lt' rfl ?_)
            | (refine Go.lf' rfl ?_)
            | ((with_reducible refine Go.bool ?_ ?_) <;> intro hc <;> (try simp only [List.length_map, ne_eq, hcs] at hc) <;> try (exfalso; omega))
            | ((with_reducible refine Res.eq ?_ ?_); (· exact aFit)))
        refine Go.callN (drain_call (hM3.keep aKeep aNx) g3 ok _) ?_
        rintro _ H5 n5 ⟨rfl, hn5, ⟨L5, hM5, hmv5⟩, hfr5⟩
        rw [Int.toNat_natCast] at hM5
        have hn6 : n3 ≤ n5 := Nat.le_trans aNx hn5
        have rm5 : getH H5 (n2 + 7) = some (.row 2 1 dm ((drainS o s3 (ks.getD i default)).1.mem.map i64)) := by
          refine (hfr5 _ aNx ho8).trans ?_
          rw [hmem, if_neg (by decide), if_neg (by decide)]
          exact aRow
        have hid5 : ∀ b, b ∈ L5.ids → b ∈ L3.ids ∨ n3 ≤ b := fun b hb => (hmv5.ids b hb).imp id (fun hh => Nat.le_trans aNx hh)
        have hm5 := hmv5.m
        clear hfr5 hmv5 hn5
        repeat' (first
            | ((with_reducible refine Go.red ?_); conv => whnf)
            | (with_reducible refine Go.and ?_ ?_)
            | (with_reducible exact True.intro)
            | (with_reducible refine Go.far ?_)
            | ((with_reducible refine Apt.mk ?_); (try dsimp only); omega)
            | ((with_reducible refine Ask.mk ?_); first | exact aAsk | exact aAsk2)
            | ((with_reducible refine Go.ari64 ?_ ?_ ?_); (· exact aBnd); (· exact aBnd))
            | ((with_reducible refine Go.ariu8 ?_ ?_ ?_); (· exact aBnd); (· exact aBnd))
            | (with_reducible refine Go.ari0 ?_)
            | (apply Go.elem; (· exact aElem))
            | (apply Go.row; (· exact aRow))
            | (apply Go.gives; (· exact aGives))
            | (apply Go.gives; (· exact aRes))
            | (with_reducible refine Go.unroll ?_)
            | (refine Go.gt rfl ?_)
            | (refine Go.gf rfl ?_)
            | (with_reducible refine Go.join ?_)
            | (refine Go.lt' rfl ?_)
            | (refine Go.lf' rfl ?_)
            | ((with_reducible refine Go.bool ?_ ?_) <;> intro hc <;> (try simp only [List.length_map, ne_eq, hcs] at hc) <;> try (exfalso; omega))
            | ((with_reducible refine Res.eq ?_ ?_); (· exact aFit)))
        have ho9 : n2 + 7 ∉ L5.ids := fun hm => (hid5 _ hm).elim ho8 (fun hh => by omega)
        exact ⟨i + 1, by omega, aLess, by omega, aNx, (drainS o s3 (ks.getD i default)).1, L5, hm5, hM5.keep aKeep aNx, g3.drain _, hemp, (by rw [drain_prints]; omega), ⟨_, aRow⟩, ho9⟩
      · repeat' (first
            | ((with_reducible refine Go.red ?_); conv => whnf)
            | (with_reducible refine Go.and ?_ ?_)
            | (with_reducible exact True.intro)
            | (with_reducible refine Go.far ?_)
            | ((with_reducible refine Apt.mk ?_); (try dsimp only); omega)
            | ((with_reducible refine Ask.mk ?_); first | exact aAsk | exact fun hg => askOff (c := decide ((7 : Int) = 2)) rfl hg | exact fun _ h => absurd (of_decide_eq_true h) (show ¬ (7 : Int) = 2 by decide) | exact fun hg => askOff (c := decide ((7 : Int) = 4)) rfl hg | exact fun _ h => absurd (of_decide_eq_true h) (show ¬ (7 : Int) = 4 by decide) | exact ⟨(List.length_map _).trans hgm, rfl⟩ | exact (List.length_map _).trans hgm | exact aAsk2)
            | ((with_reducible refine Go.ari64 ?_ ?_ ?_); (· exact aBnd); (· exact aBnd))
            | ((with_reducible refine Go.ariu8 ?_ ?_ ?_); (· exact aBnd); (· exact aBnd))
            | (with_reducible refine Go.ari0 ?_)
            | (apply Go.elem; (· exact aElem))
            | (apply Go.row; (· exact aRow))
            | (apply Go.gives; (· exact aGives))
            | (apply Go.gives; (· exact aRes))
            | (with_reducible refine Go.unroll ?_)
            | (refine Go.gt rfl ?_)
            | (refine Go.gf rfl ?_)
            | (with_reducible refine Go.join ?_)
            | (refine Go.lt' rfl ?_)
            | (refine Go.lf' rfl ?_)
            | ((with_reducible refine Go.bool ?_ ?_) <;> intro hc <;> (try simp only [List.length_map, ne_eq, hcs] at hc) <;> try (exfalso; omega))
            | ((with_reducible refine Res.eq ?_ ?_); (· exact aFit)))
        refine Go.callN (drain_call (hM3.keep aKeep aNx) g3 ok _) ?_
        rintro _ H5 n5 ⟨rfl, hn5, ⟨L5, hM5, hmv5⟩, hfr5⟩
        rw [Int.toNat_natCast] at hM5
        have hn6 : n3 ≤ n5 := Nat.le_trans aNx hn5
        have rm5 : getH H5 (n2 + 7) = some (.row 2 1 dm ((drainS o s3 (ks.getD i default)).1.mem.map i64)) := by
          refine (hfr5 _ aNx ho8).trans ?_
          rw [hmem, if_neg (by decide), if_neg (by decide)]
          exact aRow
        have hid5 : ∀ b, b ∈ L5.ids → b ∈ L3.ids ∨ n3 ≤ b := fun b hb => (hmv5.ids b hb).imp id (fun hh => Nat.le_trans aNx hh)
        have hm5 := hmv5.m
        clear hfr5 hmv5 hn5
        repeat' (first
            | ((with_reducible refine Go.red ?_); conv => whnf)
            | (with_reducible refine Go.and ?_ ?_)
            | (with_reducible exact True.intro)
            | (with_reducible refine Go.far ?_)
            | ((with_reducible refine Apt.mk ?_); (try dsimp only); omega)
            | ((with_reducible refine Ask.mk ?_); first | exact aAsk | exact aAsk2)
            | ((with_reducible refine Go.ari64 ?_ ?_ ?_); (· exact aBnd); (· exact aBnd))
            | ((with_reducible refine Go.ariu8 ?_ ?_ ?_); (· exact aBnd); (· exact aBnd))
            | (with_reducible refine Go.ari0 ?_)
            | (apply Go.elem; (· exact aElem))
            | (apply Go.row; (· exact aRow))
            | (apply Go.gives; (· exact aGives))
            | (apply Go.gives; (· exact aRes))
            | (with_reducible refine Go.unroll ?_)
            | (refine Go.gt rfl ?_)
            | (refine Go.gf rfl ?_)
            | (with_reducible refine Go.join ?_)
            | (refine Go.lt' rfl ?_)
            | (refine Go.lf' rfl ?_)
            | ((with_reducible refine Go.bool ?_ ?_) <;> intro hc <;> (try simp only [List.length_map, ne_eq, hcs] at hc) <;> try (exfalso; omega))
            | ((with_reducible refine Res.eq ?_ ?_); (· exact aFit)))
        have ho9 : n2 + 7 ∉ L5.ids := fun hm => (hid5 _ hm).elim ho8 (fun hh => by omega)
        exact ⟨i + 1, by omega, aLess, by omega, aNx, (drainS o s3 (ks.getD i default)).1, L5, hm5, hM5.keep aKeep aNx, g3.drain _, hemp, (by rw [drain_prints]; omega), ⟨_, aRow⟩, ho9⟩
  refine Go.callN (memory_call (hM'.keep aKeep aNx) (by rw [g.mem]; exact ok.mem)) ?_
  rintro _ H5 n5 ⟨b', d', rfl, q1, q2, q3, q4, q5⟩
  have rm5 : getH H5 (n2 + 7) = some (.row 2 1 dm (s.mem.map i64)) := (q5 _ aNx).trans aRow
  have hn5 : n ≤ n5 := Nat.le_trans aNx q3
  have hgm := g.mem
  clear q5 q1
  repeat' (first
    | ((with_reducible refine Go.red ?_); conv => whnf)
    | (with_reducible refine Go.and ?_ ?_)
    | (with_reducible exact True.intro)
    | (with_reducible refine Go.far ?_)
    | ((with_reducible refine Apt.mk ?_); (try dsimp only); omega)
    | ((with_reducible refine Ask.mk ?_); first | exact aAsk | exact aAsk2)
    | ((with_reducible refine Go.ari64 ?_ ?_ ?_); (· exact aBnd); (· exact aBnd))
    | ((with_reducible refine Go.ariu8 ?_ ?_ ?_); (· exact aBnd); (· exact aBnd))
    | (with_reducible refine Go.ari0 ?_)
    | (apply Go.elem; (· exact aElem))
    | (apply Go.row; (· exact aRow))
    | (apply Go.gives; (· exact aGives))
    | (apply Go.gives; (· exact aRes))
    | (with_reducible refine Go.unroll ?_)
    | ((refine Go.lookW (words_call (l1 := s.mem) (l2 := s.mem) aRow aRow aNx aNx (by omega) (List.length_map _).symm g.mem) ?_ ?_); (· exact True.intro))
    | ((refine Go.lookJ (fun _ => words_call (l1 := s.mem) (l2 := s.mem) aRow aRow aNx aNx (by omega) (List.length_map _).symm g.mem) ?_ ?_); (· exact True.intro))
    | (refine Go.gt rfl ?_)
    | (refine Go.gf rfl ?_)
    | (with_reducible refine Go.join ?_)
    | (refine Go.lt' rfl ?_)
    | (refine Go.lf' rfl ?_)
    | ((with_reducible refine Go.bool ?_ ?_) <;> intro hc <;> (try simp only [List.length_map, ne_eq, hcs] at hc) <;> try (exfalso; omega))
    | ((with_reducible refine Res.eq ?_ ?_); (· exact aFit)))
  all_goals first | (rw [decide_eq_true rfl]; done) | simp
end Go.Proofs.Ytliabecchkolgaa
