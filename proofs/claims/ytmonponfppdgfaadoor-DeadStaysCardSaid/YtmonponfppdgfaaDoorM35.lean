import Derived.Test.YtmonponfppdgfaaDoorM34
import Derived.Test.YtmonponfppdgfaaDoorM20
section
/- What stays behind Sweep: the law's walk. -/
namespace Go.Proofs.YtmonponfppdgfaaDoor
open Go Go.Abs Go.Proofs
set_option linter.unusedSimpArgs false
set_option linter.unusedVariables false
@[simp] theorem fit_class (n : Nat) (v : ClassV) : fitL n v.cells := by simp [ClassV.cells, fitL, fitA]
set_option maxRecDepth 8000 in
set_option maxHeartbeats 8000000 in
theorem deadStays_main (u : UnitS) (hu : u.Wf) (h96 : ∀ g ∈ u.graphs, g.nodes.length * 96 ≤ 140737488351232) : Pure Tryd.prog 5 [u.av] (fun r => r = bl true) := by
  refine Go.pureL lf5 rfl ?_
  have hb := begins_pure
  have hgl9 := hu.graphslen
  repeat' (first | ((with_reducible refine Go.red ?_); conv => whnf) | refine aG ?_ | exact aCn | with_reducible refine Go.and ?_ ?_ | ((with_reducible refine Ask.mk ?_); first | exact aAsk | exact aAsk2 | (intro h; simp_all [UnitS.cells] <;> fail) | (simp_all [UnitS.cells] <;> fail)) | (apply Go.elem; (· exact aElem)) | refine aK (hb) ?_ | refine aH ?_ | ((with_reducible refine Go.bool ?_ ?_) <;> intro hc <;> (try simp only [List.length_map, ne_eq, hcs] at hc) <;> try (exfalso; omega)))
  refine Go.callN (copy_call u hu h96 _ _) ?_
  rintro _ H1 n1 ⟨sh, lk, gr, ids, rfl, hA, hin, hn1, hk1⟩
  have r0 : getH H1 0 = some (.row 25 3 .any [u.av]) := (hk1 0 aNx).trans aRow
  have hn0 : 3 ≤ n1 := by first | exact hn1 | omega | exact Nat.le_trans aNx hn1
  clear hk1
  repeat' (first | ((with_reducible refine Go.red ?_); conv => whnf) | refine aG ?_ | exact aC | with_reducible refine Go.and ?_ ?_ | (apply Go.elem; (· exact aElem)) | refine aH ?_ | ((with_reducible refine Go.bool ?_ ?_) <;> intro hc <;> (try simp only [List.length_map, ne_eq, hcs] at hc) <;> try (exfalso; omega)))
  have hil : ids.length = u.graphs.length := hA.len
  have hns : n1 ∉ sh :: lk :: gr :: ids := fun h => by have := (hin _ h).2; omega
  have hfin : ∀ t H n, u.graphs.length = t → n1 + 1 ≤ n → UAt sh lk gr ids (orgUTo u t 0) H → (∃ d, getH H n1 = some (.row 25 3 d [unitX sh lk gr u])) → ∃ H' n', Wk .any H n .any H' n' ∧ n1 + 1 ≤ n' ∧ t ≤ u.graphs.length ∧ (t < u.graphs.length → UAt sh lk gr ids (orgUTo u t 0) H' ∧ ∃ d, getH H' n1 = some (.row 25 3 d [unitX sh lk gr u])) ∧ (u.graphs.length ≤ t → ∃ d, getH H' n1 = some (.row 25 3 d [(orgU u).av])) := by
    rintro t H n rfl hn hU ⟨d, hr⟩
    refine ⟨_, _, Wk.ice (cb := n1) (someH (sh :: lk :: gr :: ids) H) 4 .any hr (fun b q h => someH_sub b q h), hn, Nat.le_refl _, fun h => absurd h (Nat.lt_irrefl _), fun _ => ⟨.any, ?_⟩⟩
    rw [goneS_out hns, getH_here]
    have := hU.ice 0
    rw [unitX_org, orgU_all (Nat.le_refl _)] at this
    rw [List.map_cons, List.map_nil, this]
  have hA0 : ∀ H : Hp, (∀ x ∈ sh :: lk :: gr :: ids, getH H x = getH H1 x) → UAt sh lk gr ids (orgUTo u 0 0) H := fun H hk => by rw [orgU_zero]; exact hA.keep hk
  refine Go.loopT (fun t : Nat => [(3, .pt n1 1 0 0), (4, i64 t)])
    (fun t H n => n1 + 1 ≤ n ∧ t ≤ u.graphs.length ∧ (t < u.graphs.length → UAt sh lk gr ids (orgUTo u t 0) H ∧ ∃ d, getH H n1 = some (.row 25 3 d [unitX sh lk gr u])) ∧ (u.graphs.length ≤ t → ∃ d, getH H n1 = some (.row 25 3 d [(orgU u).av]))) (fun t => u.graphs.length - t) 0 aLess ?_ ?_
  · by_cases h0 : u.graphs.length = 0
    · exact hfin 0 _ _ h0 aNx (hA0 _ fun x hx => by have := hin _ hx; exact aSkip) ⟨_, aRow⟩
    · exact ⟨_, _, Wk.refl _ _ _, aNx, Nat.zero_le _, fun _ => ⟨hA0 _ fun x hx => by have := hin _ hx; exact aSkip, _, aRow⟩, fun h => by omega⟩
  clear hA0 r0 hA
  rintro t H n ⟨hn, ht, hlt, hge⟩
  by_cases htl : t < u.graphs.length
  · obtain ⟨hU, dc, rc⟩ := hlt htl
    clear hlt hge
    have hxm : ids.getD t 0 ∈ ids := getD_mem (by omega)
    have hxin := hin _ (List.mem_cons_of_mem _ (List.mem_cons_of_mem _ (List.mem_cons_of_mem _ hxm)))
    have hgrin := hin gr (by simp)
    obtain ⟨dg, rg⟩ := hU.gr
    rw [orgU_row _ _ _ _ hil] at rg
    have eg := fun d => (show (gRow ids u.graphs).getD ((t : Int)).toNat d = gCell (ids.getD t 0) (u.gr t) by rw [Int.toNat_natCast]; exact gRow_get hil htl d)
    have hgl : (gRow ids u.graphs).length = u.graphs.length := gRow_len hil
    have horg := fun k H H' h1 h2 h3 => UAt.org (sh := sh) (lk := lk) (gr := gr) (ids := ids) (xs := ids.getD t 0) (k := k) (H := H) (H' := H') h1 htl rfl h2 h3
    have hnxt := fun k => orgU_next (k := k) htl
    have h88 := (hu.graphs _ (getD_mem' default htl)).len
    have hngr : gr ≠ ids.getD t 0 := fun e => by
      have := hU.nodup
      simp only [List.nodup_cons, List.mem_cons, not_or] at this
      exact this.2.2.1 (by rw [e]; exact hxm)
    have hnds : ∀ k H, UAt sh lk gr ids (orgUTo u t k) H → ∃ d, getH H (ids.getD t 0) = some (.row 46 13 d ((orgTo (u.gr t) k).nodes.map Node.av)) := fun k H h => by
      have := h.nds t (by rw [orgU_len]; exact htl)
      rw [orgU_gr htl, if_neg (by omega), if_pos rfl] at this; exact this
    obtain ⟨dx, rx⟩ := hnds 0 _ hU
    generalize ids.getD t 0 = xs at *
    have hgrr : ∀ k H, UAt sh lk gr ids (orgUTo u t k) H → ∃ d, getH H gr = some (.row 33 4 d (gRow ids u.graphs)) := fun k H h => by
      have := h.gr
      rw [orgU_row _ _ _ _ hil] at this; exact this
    repeat' (first | ((with_reducible refine Go.red ?_); conv => whnf) | refine aG ?_ | exact aCn | with_reducible refine Go.and ?_ ?_ | ((with_reducible refine Ask.mk ?_); first | exact aAsk | (exact hgl) | exact aAsk2) | (apply Go.elem; (· (first | exact eg _ | exact aElem))) | refine aH ?_ | ((with_reducible refine Go.bool ?_ ?_) <;> intro hc <;> (try simp only [List.length_map, ne_eq, hcs] at hc) <;> try (exfalso; omega)))
    refine Go.loop (fun k : Nat => [(3, .pt n1 1 0 0), (4, i64 t), (5, i64 k)])
      (fun k H n => n1 + 1 ≤ n ∧ k ≤ (u.gr t).nodes.length ∧ k ≤ 4096 ∧ UAt sh lk gr ids (orgUTo u t k) H ∧ ∃ d, getH H n1 = some (.row 25 3 d [unitX sh lk gr u])) (fun k => (u.gr t).nodes.length - k) 0 aLess ⟨aNx, Nat.zero_le _, Nat.zero_le _, hU.keep (fun x hx => by have := hin _ hx; exact aSkip), _, aRow⟩ ?_
    clear hU rc rg rx
    rintro k H2 n2 ⟨hn2, hk, hk4, hU, dc, rc⟩
    obtain ⟨dg, rg⟩ := hgrr k _ hU
    obtain ⟨dx, rx⟩ := hnds k _ hU
    have hml : ((orgTo (u.gr t) k).nodes.map Node.av).length = (u.gr t).nodes.length := by rw [List.length_map, orgTo_len]
    by_cases hc2 : k < (u.gr t).nodes.length ∧ k < 4096
    · have en : ∀ d, ((orgTo (u.gr t) k).nodes.map Node.av).getD ((k : Int)).toNat d = ((u.gr t).nd k).av := fun d => by
        rw [Int.toNat_natCast]
        have := nd_at (l := (orgTo (u.gr t) k).nodes) (i := k) (by rw [orgTo_len]; exact hc2.1) d
        rw [Int.toNat_natCast] at this
        rw [this]
        have h2 := orgTo_nd (g := u.gr t) (k := k) hc2.1
        rw [if_neg (by omega)] at h2
        exact congrArg Node.av h2
      have hstp := orgTo_step hc2.1
      obtain ⟨hc3, hc4⟩ := hc2
      repeat' (first | ((with_reducible refine Go.red ?_); conv => whnf) | refine aG ?_ | exact aCn | with_reducible refine Go.and ?_ ?_ | ((with_reducible refine Ask.mk ?_); first | exact aAsk | (exact hgl) | (exact hml) | exact aAsk2) | (apply Go.elem; (· (first | exact eg _ | exact en _ | exact aElem))) | refine aH ?_ | ((with_reducible refine Go.bool ?_ ?_) <;> intro hc <;> (try simp only [List.length_map, ne_eq, hcs] at hc) <;> try (exfalso; omega)))
      exact ⟨k + 1, by omega, aLess, aNx, by omega, by omega, horg k _ _ hU (fun y hy hne => by have := hin _ hy; exact aSkip) ⟨_, by rw [← hstp]; exact aRow⟩, _, aRow⟩
    · have hnx := hnxt k hc2 hk4
      rw [hnx] at hU
      repeat' (first | ((with_reducible refine Go.red ?_); conv => whnf) | refine aG ?_ | exact aCn | with_reducible refine Go.and ?_ ?_ | ((with_reducible refine Ask.mk ?_); first | exact aAsk | (exact hgl) | (exact hml) | exact aAsk2) | (apply Go.elem; (· (first | exact eg _ | exact aElem))) | refine aH ?_ | ((with_reducible refine Go.bool ?_ ?_) <;> intro hc <;> (try simp only [List.length_map, ne_eq, hcs] at hc) <;> try (exfalso; omega)))
      by_cases h1 : u.graphs.length = t + 1
      · exact ⟨t + 1, by omega, aLess, hfin (t + 1) _ _ h1 aNx (hU.keep fun x hx => by have := hin _ hx; exact aSkip) ⟨_, aRow⟩⟩
      · exact ⟨t + 1, by omega, aLess, _, _, Wk.refl _ _ _, aNx, by omega, fun _ => ⟨hU.keep fun x hx => by have := hin _ hx; exact aSkip, _, aRow⟩, fun h => by omega⟩
  · have : t = u.graphs.length := by omega
    subst this
    obtain ⟨dc, rc⟩ := hge (Nat.le_refl _)
    clear hge hlt hfin hns hin
    have hww := orgU_wf hu
    have hwl : (orgU u).graphs.length = u.graphs.length := by simp [orgU]
    have horg : ∀ t i, t < u.graphs.length → i < ((orgU u).gr t).nodes.length → i < 4096 → (((orgU u).gr t).nd i).origin = (i : Int) := fun t i ht hi h4 => by
      have e1 : (orgU u).gr t = orgG (u.gr t) := by simp [orgU, UnitS.gr, List.getD, ht]
      rw [e1] at hi ⊢
      have : i < (u.gr t).nodes.length := by have := orgTo_len (u.gr t) 4096; unfold orgG at hi; omega
      unfold orgG
      rw [orgTo_nd this, if_pos h4]
    by_cases hr : RightU (orgU u)
    · have hsw := Sweep_right (orgU u) hww hr
      obtain ⟨hvr, hvs⟩ := swept_u hww hr
      have hvw := hvs.wf
      have hK := kept_sweep hr
      have hcl := classes_pure (orgU u) hww
      rw [if_pos (rightB_iff.2 hr)] at hcl
      unfold classesAv at hcl
      have hck := check_pure (sweepU (orgU u)) hvw
      rw [checkU_ok.2 hvr] at hck
      have hd1 := rdecls_pure (sweepU (orgU u)).shared (orgU u).shared hvw.sharedlen hww.sharedlen
      have hd2 := rdecls_pure (sweepU (orgU u)).locks (orgU u).locks hvw.lockslen hww.lockslen
      rw [decide_eq_true hK.shared] at hd1
      rw [decide_eq_true hK.locks] at hd2
      have hvl := hK.len
      have hfew := hr.few
      have hcln := classesU_len (orgU u)
      generalize orgU u = w at *
      generalize sweepU w = v at *
      repeat' (first | ((with_reducible refine Go.red ?_); conv => whnf) | refine aG ?_ | exact aCn | with_reducible refine Go.and ?_ ?_ | ((with_reducible refine Ask.mk ?_); first | exact aAsk | exact aAsk2 | (intro h; simp_all [UnitS.cells] <;> fail) | (simp_all [UnitS.cells] <;> fail)) | (apply Go.elem; (· exact aElem)) | refine aK (hsw) ?_ | refine aK (hcl) ?_ | refine aK (hck) ?_ | refine aK (hd1) ?_ | refine aK (hd2) ?_ | refine aH ?_ | ((with_reducible refine Go.bool ?_ ?_) <;> intro hc <;> (try simp only [List.length_map, ne_eq, hcs] at hc) <;> try (exfalso; omega)))
      · exfalso; simp at hc; omega
      clear hc
      have hgw := fun t ht => hww.graphs _ (getD_mem' (j := t) default ht)
      have hgv := fun t ht => hvw.graphs _ (getD_mem' (j := t) default ht)
      refine Go.loop (fun t : Nat => [(3, .pt n1 1 0 0), (6, .pt (n + 9) 1 0 0), (8, .im 3 .any ((classesU w).map ClassV.av)), (13, i64 t)])
        (fun t H m => n + 20 ≤ m ∧ t ≤ w.graphs.length ∧ (∃ d, getH H n1 = some (.row 25 3 d [w.av])) ∧ ∃ d, getH H (n + 9) = some (.row 25 3 d [v.av])) (fun t => w.graphs.length - t) 0 aLess ⟨aNx, Nat.zero_le _, ⟨_, aRow⟩, _, aRow⟩ ?_
      clear rc
      rintro t H2 m ⟨hm, ht, ⟨d1, r1⟩, d2, r2⟩
      have hwgl : (w.graphs.map Graph.av).length = w.graphs.length := by simp
      have hvgl : (v.graphs.map Graph.av).length = v.graphs.length := by simp
      by_cases htl : t < w.graphs.length
      · obtain ⟨idx, hk⟩ := hK.kept t htl
        have eg := fun d => gr_at (l := w.graphs) htl d
        have ev := fun d => gr_at (l := v.graphs) (i := t) (by omega) d
        have hgw := hgw t htl
        have hgv := hgv t (by omega)
        have hgo := hr.gr htl
        have ho := fun i hi => horg t i (by omega) hi
        have hwhole := hgo.whole
        have hrc := rreached_pure (w.gr t) hgw hwhole
        obtain ⟨hkl, ⟨hkn1, hkn2, hkn3⟩, hki, hkd, hkj, hks, _, hkv⟩ := hk
        have hgl2 := hgo.len
        have hgv2 := (hvr.gr (t := t) (by omega)).len
        generalize hg : w.gr t = g at *
        generalize hh : v.gr t = h at *
        rw [show w.graphs.getD t default = g from hg] at eg
        rw [show v.graphs.getD t default = h from hh] at ev
        repeat' (first | ((with_reducible refine Go.red ?_); conv => whnf) | refine aG ?_ | exact aCn | with_reducible refine Go.and ?_ ?_ | ((with_reducible refine Ask.mk ?_); first | exact aAsk | (exact hwgl) | (exact hvgl) | exact aAsk2 | (intro h; simp_all [UnitS.cells, Graph.cells] <;> fail) | (simp_all [UnitS.cells, Graph.cells] <;> fail)) | (apply Go.elem; (· (first | exact eg _ | exact ev _ | exact aElem))) | refine aK (hrc) ?_ | refine aH ?_ | ((with_reducible refine Go.bool ?_ ?_) <;> intro hc <;> (try simp only [List.length_map, ne_eq, hcs] at hc) <;> try (exfalso; omega)))
        · exfalso; rw [hkn1, hkn2, hkn3] at hc; simp [bneB] at hc
        clear hc hrc
        have e0 : List.replicate (((List.map Node.av g.nodes).length : Nat) : Int).toNat (AV.sc (Value.bool false)) = (List.replicate g.nodes.length false).map bl := by
          rw [Int.toNat_natCast, List.length_map, List.map_replicate]
        refine Go.loop (fun σ : Nat × List Bool × Int => [(3, .pt n1 1 0 0), (6, .pt (n + 9) 1 0 0), (8, .im 3 .any ((classesU w).map ClassV.av)), (13, i64 t), (14, .pt (m + 15) 1 0 0), (15, .pt (m + 16) 1 0 0), (16, imB (reachL g (-1))), (17, .sl (m + 24) g.nodes.length), (18, i64 σ.2.2), (19, i64 σ.1)])
          (fun σ H p => m + 25 ≤ p ∧ σ.1 ≤ idx.length ∧ σ.2.1.length = g.nodes.length ∧ (∀ i, i < g.nodes.length → (σ.2.1.getD i false = true ↔ ∃ a, a < σ.1 ∧ idx.getD a 0 = i)) ∧ (1 ≤ σ.1 → σ.2.2 = (idx.getD (σ.1 - 1) 0 : Nat)) ∧ (∃ d, getH H n1 = some (.row 25 3 d [w.av])) ∧ (∃ d, getH H (n + 9) = some (.row 25 3 d [v.av])) ∧ (∃ d, getH H (m + 15) = some (.row 33 4 d [g.av])) ∧ (∃ d, getH H (m + 16) = some (.row 33 4 d [h.av])) ∧ ∃ d, getH H (m + 24) = some (.row 4 1 d (σ.2.1.map bl)))
          (fun σ => idx.length - σ.1) (0, List.replicate g.nodes.length false, -1) (by rw [← List.length_map (f := Node.av)]; exact aLess) ⟨aNx, Nat.zero_le _, by simp, fun i hi => ⟨fun e => by simp [List.getD, hi] at e, fun ⟨a, ha, _⟩ => by omega⟩, fun e => by dsimp only at e; omega, ⟨_, aRow⟩, ⟨_, aRow⟩, ⟨_, aRow⟩, ⟨_, aRow⟩, ⟨_, by rw [← e0]; exact aRow⟩⟩ ?_
        clear r1 r2 e0
        rintro ⟨k, there, last⟩ H3 p ⟨hp, hk, hth, hti, hla, ⟨d1, r1⟩, ⟨d2, r2⟩, ⟨d3, r3⟩, ⟨d4, r4⟩, d5, r5⟩
        dsimp only at hk hth hti hla r5 ⊢
        have htm : (there.map bl).length = g.nodes.length := by simp [hth]
        have hgm : (g.nodes.map Node.av).length = g.nodes.length := by simp
        have hhm : (h.nodes.map Node.av).length = idx.length := by simp [hkl]
        by_cases hkl2 : k < idx.length
        · have hii := hki k hkl2
          obtain ⟨nx, el, he⟩ := hkd k hkl2
          have hor := ho _ hii (by omega)
          have hlt : 1 < k → last < (idx.getD k 0 : Nat) := fun hk1 => by
            have := hks (k - 1) k (by omega) (by omega) hkl2
            rw [hla (by omega)]; omega
          have hnot : there.getD (idx.getD k 0) false = false := by
            cases hv : there.getD (idx.getD k 0) false with
            | false => rfl
            | true =>
              obtain ⟨a, ha, hb⟩ := (hti _ hii).1 hv
              have := hkj a k (by omega) hkl2 hb
              omega
          have hiq : ∃ i, idx.getD k 0 = i := ⟨_, rfl⟩
          obtain ⟨i, hi⟩ := hiq
          have en := fun d => nd_at (l := h.nodes) (i := k) (by omega) d
          rw [show h.nodes.getD k default = h.nd k from rfl, he] at en
          rw [hi] at hii hor hlt hnot en
          have eo := fun d => nd_at (l := g.nodes) hii d
          rw [show g.nodes.getD i default = g.nd i from rfl] at eo
          have et := fun d => bool_at (l := there) (k := (i : Int)) d (by rw [hth]; exact hii)
          rw [show fnd there (i : Int) = false from hnot] at et
          generalize g.nd i = q at *
          obtain ⟨kd, op, sl, th, a, b, nx0, el0, org⟩ := q
          dsimp only at hor en
          subst hor
          have hbs : ∀ j, j < g.nodes.length → ((there.set i true).getD j false = true ↔ ∃ a, a < k + 1 ∧ idx.getD a 0 = j) := fun j hj => by
            by_cases e : i = j
            · subst e
              simp only [List.getD, List.getElem?_set, hth, hj, if_true, Option.getD_some, true_iff]
              exact ⟨k, by omega, hi⟩
            · rw [show (there.set i true).getD j false = there.getD j false by simp [List.getD, List.getElem?_set, e]]
              rw [hti j hj]
              exact ⟨fun ⟨a, h1, h2⟩ => ⟨a, by omega, h2⟩, fun ⟨a, h1, h2⟩ => ⟨a, by
                by_cases ea : a = k
                · rw [ea, hi] at h2; exact absurd h2 e
                · omega, h2⟩⟩
          repeat' (first | ((with_reducible refine Go.red ?_); conv => whnf) | refine aG ?_ | exact aCn | with_reducible refine Go.and ?_ ?_ | ((with_reducible refine Ask.mk ?_); first | exact aAsk | (exact htm) | (exact hgm) | (exact hhm) | exact aAsk2 | (intro h; simp_all [Graph.cells, Node.cells] <;> fail) | (simp_all [Graph.cells, Node.cells] <;> fail)) | (apply Go.elem; (· (first | exact en _ | exact eo _ | exact et _ | exact aElem))) | refine aH ?_ | ((with_reducible refine Go.bool ?_ ?_) <;> intro hc <;> (try simp only [List.length_map, ne_eq, hcs] at hc) <;> try (exfalso; omega)))
          · exfalso; simp at hc
          exact ⟨(k + 1, there.set i true, (i : Int)), by dsimp only; omega, aLess, aNx, by dsimp only; omega, by simp [hth], hbs, fun _ => by rw [show k + 1 - 1 = k from rfl, hi], ⟨_, aRow⟩, ⟨_, aRow⟩, ⟨_, aRow⟩, ⟨_, aRow⟩, ⟨_, by rw [← bool_set]; exact aRow⟩⟩
        · have : k = idx.length := by omega
          subst this
          repeat' (first | ((with_reducible refine Go.red ?_); conv => whnf) | refine aG ?_ | exact aCn | with_reducible refine Go.and ?_ ?_ | ((with_reducible refine Ask.mk ?_); first | exact aAsk | (exact hhm) | exact aAsk2 | (intro h; simp_all [Graph.cells] <;> fail) | (simp_all [Graph.cells] <;> fail)) | (apply Go.elem; (· exact aElem)) | refine aH ?_ | ((with_reducible refine Go.bool ?_ ?_) <;> intro hc <;> (try simp only [List.length_map, ne_eq, hcs] at hc) <;> try (exfalso; omega)))
          refine Go.loop (fun j : Nat => [(3, .pt n1 1 0 0), (6, .pt (n + 9) 1 0 0), (8, .im 3 .any ((classesU w).map ClassV.av)), (13, i64 t), (14, .pt (m + 15) 1 0 0), (15, .pt (m + 16) 1 0 0), (16, imB (reachL g (-1))), (17, .sl (m + 24) g.nodes.length), (22, i64 j)])
            (fun j H p => m + 25 ≤ p ∧ j ≤ g.nodes.length ∧ (∃ d, getH H n1 = some (.row 25 3 d [w.av])) ∧ (∃ d, getH H (n + 9) = some (.row 25 3 d [v.av])) ∧ (∃ d, getH H (m + 15) = some (.row 33 4 d [g.av])) ∧ ∃ d, getH H (m + 24) = some (.row 4 1 d (there.map bl)))
            (fun j => g.nodes.length - j) 0 aLess ⟨aNx, Nat.zero_le _, ⟨_, aRow⟩, ⟨_, aRow⟩, ⟨_, aRow⟩, ⟨_, aRow⟩⟩ ?_
          clear r1 r2 r3 r4 r5
          rintro j H4 p2 ⟨hp2, hj, ⟨d1, r1⟩, ⟨d2, r2⟩, ⟨d3, r3⟩, d5, r5⟩
          have hrm : ((reachL g (-1)).map bl).length = g.nodes.length := by rw [List.length_map, reachL_len]
          by_cases hjl : j < g.nodes.length
          · have en := fun d => nd_at (l := g.nodes) hjl d
            rw [show g.nodes.getD j default = g.nd j from rfl] at en
            have er := fun d => bool_at (l := reachL g (-1)) (k := (j : Int)) d (by rw [reachL_len]; exact hjl)
            have et := fun d => bool_at (l := there) (k := (j : Int)) d (by rw [hth]; exact hjl)
            have hfc := fnd_come (g := g) hjl
            have hno := hgo.node hjl
            have hvp := visible_pure (classesU w) (g.nd j) (fun hkd => by
              have := hno.thing.1 (by unfold usesThing; exact decide_eq_true (by omega))
              rw [if_neg (by omega)] at this
              rw [hcln]; exact this)
            have hvi := hkv j
            rw [← hfc] at hvi
            have htj : fnd there (j : Int) = there.getD j false := by unfold fnd; rw [Int.toNat_natCast]
            rw [htj] at et
            have htr := hti j hjl
            cases hf : fnd (reachL g (-1)) (j : Int) with
            | false =>
              rw [hf] at er
              repeat' (first | ((with_reducible refine Go.red ?_); conv => whnf) | refine aG ?_ | exact aCn | with_reducible refine Go.and ?_ ?_ | ((with_reducible refine Ask.mk ?_); first | exact aAsk | (exact htm) | (exact hgm) | (exact hrm) | exact aAsk2 | (intro h; simp_all [Graph.cells] <;> fail) | (simp_all [Graph.cells] <;> fail)) | (apply Go.elem; (· (first | exact er _ | exact en _ | exact et _ | exact aElem))) | refine aK (hvp) ?_ | refine aH ?_ | ((with_reducible refine Go.bool ?_ ?_) <;> intro hc <;> (try simp only [List.length_map, ne_eq, hcs] at hc) <;> try (exfalso; omega)))
              exact ⟨j + 1, by omega, aLess, aNx, by omega, ⟨_, aRow⟩, ⟨_, aRow⟩, ⟨_, aRow⟩, ⟨_, aRow⟩⟩
            | true =>
              rw [hf] at er
              cases hv : visB (classesU w) (g.nd j) with
              | false =>
                rw [hv] at hvp
                repeat' (first | ((with_reducible refine Go.red ?_); conv => whnf) | refine aG ?_ | exact aCn | with_reducible refine Go.and ?_ ?_ | ((with_reducible refine Ask.mk ?_); first | exact aAsk | (exact htm) | (exact hgm) | (exact hrm) | exact aAsk2 | (intro h; simp_all [Graph.cells] <;> fail) | (simp_all [Graph.cells] <;> fail)) | (apply Go.elem; (· (first | exact er _ | exact en _ | exact et _ | exact aElem))) | refine aK (hvp) ?_ | refine aH ?_ | ((with_reducible refine Go.bool ?_ ?_) <;> intro hc <;> (try simp only [List.length_map, ne_eq, hcs] at hc) <;> try (exfalso; omega)))
                exact ⟨j + 1, by omega, aLess, aNx, by omega, ⟨_, aRow⟩, ⟨_, aRow⟩, ⟨_, aRow⟩, ⟨_, aRow⟩⟩
              | true =>
                rw [hv] at hvp
                obtain ⟨a, ha, hb, _⟩ := hvi hf hv
                rw [htr.2 ⟨a, ha, hb⟩] at et
                repeat' (first | ((with_reducible refine Go.red ?_); conv => whnf) | refine aG ?_ | exact aCn | with_reducible refine Go.and ?_ ?_ | ((with_reducible refine Ask.mk ?_); first | exact aAsk | (exact htm) | (exact hgm) | (exact hrm) | exact aAsk2 | (intro h; simp_all [Graph.cells] <;> fail) | (simp_all [Graph.cells] <;> fail)) | (apply Go.elem; (· (first | exact er _ | exact en _ | exact et _ | exact aElem))) | refine aK (hvp) ?_ | refine aH ?_ | ((with_reducible refine Go.bool ?_ ?_) <;> intro hc <;> (try simp only [List.length_map, ne_eq, hcs] at hc) <;> try (exfalso; omega)))
                exact ⟨j + 1, by omega, aLess, aNx, by omega, ⟨_, aRow⟩, ⟨_, aRow⟩, ⟨_, aRow⟩, ⟨_, aRow⟩⟩
          · repeat' (first | ((with_reducible refine Go.red ?_); conv => whnf) | refine aG ?_ | exact aCn | with_reducible refine Go.and ?_ ?_ | ((with_reducible refine Ask.mk ?_); first | exact aAsk | (exact hgm) | exact aAsk2 | (intro h; simp_all [Graph.cells] <;> fail) | (simp_all [Graph.cells] <;> fail)) | (apply Go.elem; (· exact aElem)) | refine aH ?_ | ((with_reducible refine Go.bool ?_ ?_) <;> intro hc <;> (try simp only [List.length_map, ne_eq, hcs] at hc) <;> try (exfalso; omega)))
            exact ⟨t + 1, by omega, aLess, aNx, by omega, ⟨_, aRow⟩, _, aRow⟩
      · repeat' (first | ((with_reducible refine Go.red ?_); conv => whnf) | refine aG ?_ | exact aCn | with_reducible refine Go.and ?_ ?_ | ((with_reducible refine Ask.mk ?_); first | exact aAsk | (exact hwgl) | exact aAsk2 | (intro h; simp_all [UnitS.cells] <;> fail) | (simp_all [UnitS.cells] <;> fail)) | (apply Go.elem; (· exact aElem)) | refine aH ?_ | ((with_reducible refine Go.bool ?_ ?_) <;> intro hc <;> (try simp only [List.length_map, ne_eq, hcs] at hc) <;> try (exfalso; omega)))
        exact rfl
    · have hsw := Sweep_bad (orgU u) hww hr
      repeat' (first | ((with_reducible refine Go.red ?_); conv => whnf) | refine aG ?_ | exact aCn | with_reducible refine Go.and ?_ ?_ | ((with_reducible refine Ask.mk ?_); first | exact aAsk | exact aAsk2 | (intro h; simp_all [UnitS.cells] <;> fail) | (simp_all [UnitS.cells] <;> fail)) | (apply Go.elem; (· exact aElem)) | refine aK (hsw) ?_ | refine aH ?_ | ((with_reducible refine Go.bool ?_ ?_) <;> intro hc <;> (try simp only [List.length_map, ne_eq, hcs] at hc) <;> try (exfalso; omega)))
      exact rfl
end Go.Proofs.YtmonponfppdgfaaDoor
end
section
/- Behind Sweep the unit is right, its nodes are old ones but for where they lead, and all visible nodes that are reached are among them, in their order: for every unit. No conditions beyond the card's own: the library's table starts as its text lays it. -/
namespace Go.Proofs.YtmonponfppdgfaaDoor
open Go Go.Abs Go.Proofs Go.RowKit Go.ChangeShapes Go.WideShapes Go.ChangeAt
set_option linter.unusedSimpArgs false
set_option linter.unusedVariables false
set_option maxRecDepth 100000 in
theorem deadStays_lifted (os : Os) (started : os.Started) (H : Type) (enc : TypeId × Value → H) :
    ReturnsInHanded {} Tryd.checked os 5 .any (fun w args => (Rows.deadStaysSpec.pre enc Tryd.prog Tryd.f5 [] false w args ∧ laidMetH Tryd.prog laidT w) ∧ sizedMet enc Tryd.prog Tryd.f5 (OpenSpec.ofChange Rows.deadStaysSpec) false w args) (Rows.deadStaysSpec.post enc Tryd.prog Tryd.f5 false true false false) := by
  refine returnsInHanded_of_change_and (C := Tryd.checked) (X := fun w _ => laidMetH Tryd.prog laidT w) (fun _ _ _ hh h => h.of_heap hh) own started (by kernel_rfl) Tryd.func5
    (ChangeSpec.witness_shaped (enc := enc) (C := Tryd.checked) (os := os) (X := fun w _ => laidMetH Tryd.prog laidT w) false (World.doorLaid Tryd.prog 400 os) #[.agg #[.slice none 0 0, .slice none 0 0, .slice none 0 0]] 8 rfl (World.shaped_of_RefB (by kernel_rfl) (by kernel_rfl)) (by kernel_rfl) (by kernel_rfl) (by kernel_rfl) (door_met os _)) ?_
  intro W base args ds gs before hval hW _ hr hL _
  refine law_contract (ts := [25]) (tb := 4) laidOut (by kernel_rfl) rfl Tryd.underlying4 (by kernel_rfl) (fun ds h => ?_) (fun t ht => ?_)
    (opensAll_cons (ag := true) (by kernel_rfl) opens_unit96 (fun h => by cases h) opensAll_nil)
    (fun a h => ?_) hval hW hr (of_laid hL)
  · match ds, h with
    | [d0], _ => rfl
  · have : ∀ t ∈ [25], Tryd.prog.readableRec t = true ∧ t < Tryd.prog.types.size := by
      simp only [List.forall_mem_cons]
      refine ⟨⟨by kernel_rfl, of_decide_eq_true (by kernel_rfl)⟩, by simp⟩
    exact this t ht
  · exact deadStays_main a.1 h.1.1 h.1.2
theorem deadStays_row : Rows.DeadStaysSaid :=
  OpenClaim.holds_of_wide 5 Tryd.f5 rfl rfl rfl rfl rfl rfl rfl ⟨rfl, rfl, rfl, rfl, rfl⟩ rfl rfl rfl rfl rfl (by kernel_rfl) Tryd.func5 (by kernel_rfl)
    (of_decide_eq_true (by kernel_rfl)) (by unfold Func.isWrapper; first | (rw [if_pos (by decide +kernel)]; kernel_rfl) | (rw [if_neg (by decide +kernel)]; exact ⟨rfl, rfl⟩))
    (fun os started H enc _ => deadStays_lifted os started H enc)
set_option maxRecDepth 100000 in
theorem deadStays_holds : Rows.DeadStaysCardSaid :=
  Claim7.holds_tied_plain_at .later [] [.data] true (true, "b8da0b6d94c79170f3326ac348dec9f8c494314b9b22c81bf5f264d8e5f95cb0") false
    deadStays_row (fun _ h => by cases h) (by kernel_rfl) (fun _ h => by cases h) deadStays_row_tie rfl ⟨rfl, rfl⟩ (by kernel_rfl) rfl
    (fun f fn hf hfn => by
      obtain rfl : f = 5 := Option.some.inj ((show Tryd.prog.funcNamed "stile/stilelaw14.DeadStays" = some 5 by kernel_rfl).symm.trans hf) |>.symm
      obtain rfl : fn = Tryd.f5 := (Option.some.inj (Tryd.func5.symm.trans hfn)).symm
      exact ⟨by kernel_rfl, fun j t ht => by
        rw [show Tryd.f5.params = #[25] by kernel_rfl] at ht
        have hm : t ∈ [25] := by simpa using Array.mem_of_getElem? ht
        have hall : ([25].all fun u => !Tryd.prog.wantsStandIn u) = true := by kernel_rfl
        exact (show Tryd.prog.wantsStandIn t = false by simpa using List.all_eq_true.1 hall t hm)⟩)
    (by kernel_rfl)
end Go.Proofs.YtmonponfppdgfaaDoor
end
