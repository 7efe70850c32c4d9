import Derived.Test.YtmonponfppdgfaaDoorM33
import Derived.Test.YtmonponfppdgfaaDoorM20
section
/- A slot is live just if some way reads it before it is set: the law's walk. -/
namespace Go.Proofs.YtmonponfppdgfaaDoor
open Go Go.Abs Go.Proofs
set_option linter.unusedSimpArgs false
set_option linter.unusedVariables false
set_option maxHeartbeats 8000000 in
theorem deadReads_main (u : UnitS) (hu : u.Wf) (t a s : Int) (ht : wf64 t) (ha : wf64 a) (hs : wf64 s) : Pure Tryd.prog 4 [u.av, i64 t, i64 a, i64 s] (fun r => r = bl true) := by
  refine Go.pureL lf4 rfl ?_
  have hb := begins_pure
  have hl := Live_pure u hu t
  unfold tabAv at hl
  by_cases hr : RightU u
  · rw [if_pos (rightB_iff.2 hr)] at hl
    by_cases htl : t < 0 ∨ (u.graphs.length : Int) ≤ t
    · rw [if_pos htl] at hl
      repeat' (first | ((with_reducible refine Go.red ?_); conv => whnf) | refine aG ?_ | exact aCn | with_reducible refine Go.and ?_ ?_ | ((with_reducible refine Ask.mk ?_); first | exact aAsk | exact aAsk2 | (intro h; simp_all [UnitS.cells] <;> fail) | (simp_all [UnitS.cells] <;> fail)) | (apply Go.elem; (· exact aElem)) | refine aK (hb) ?_ | refine aK (hl) ?_ | refine aH ?_ | ((with_reducible refine Go.bool ?_ ?_) <;> intro hc <;> (try simp only [List.length_map, ne_eq, hcs] at hc) <;> try (exfalso; omega)))
      exact rfl
    · rw [if_neg htl] at hl
      obtain ⟨k, rfl⟩ : ∃ k : Nat, t = k := ⟨t.toNat, by omega⟩
      have hk : k < u.graphs.length := by omega
      rw [Int.toNat_natCast] at hl
      obtain ⟨g, hG⟩ : ∃ g, u.gr k = g := ⟨_, rfl⟩
      have hgw : g.Wf := by rw [← hG]; exact hu.graphs _ (getD_mem' default hk)
      have hgo : GraphOk u g := by rw [← hG]; exact hr.gr hk
      have hlen := hgw.len
      have eg : ∀ d, (u.graphs.map Graph.av).getD ((k : Int)).toNat d = g.av := fun d => by rw [← hG]; exact gr_at hk d
      rw [hG] at hl
      have hsh : (liveT g).length = g.nodes.length := (shape_ahdT _ _ _ _).len
      clear hG
      have hsl := hgo.slots
      have hlo := hgo.locals
      have hll := hgo.len
      by_cases hok : 0 ≤ a ∧ a < g.nodes.length ∧ 0 ≤ s ∧ s < g.slots
      · obtain ⟨i, rfl⟩ : ∃ i : Nat, a = i := ⟨a.toNat, by omega⟩
        obtain ⟨q, rfl⟩ : ∃ q : Nat, s = q := ⟨s.toNat, by omega⟩
        have hrep : ∀ d, (List.replicate (((List.map Node.av g.nodes).length : Nat) : Int).toNat (zav false [Value.bool false])).getD ((i : Int)).toNat d = bl false := fun d => by
          rw [Int.toNat_natCast, Int.toNat_natCast, List.length_map, List.getD, List.getElem?_replicate, if_pos (by omega)]; rfl
        have hst : ((List.replicate (((List.map Node.av g.nodes).length : Nat) : Int).toNat (zav false [Value.bool false])).set ((i : Int)).toNat (AV.sc (Value.bool true))) = ((List.replicate g.nodes.length false).set i true).map bl := by
          rw [Int.toNat_natCast, Int.toNat_natCast, List.length_map, List.map_set, List.map_replicate]; rfl
        repeat' (first | ((with_reducible refine Go.red ?_); conv => whnf) | refine aG ?_ | exact aCn | with_reducible refine Go.and ?_ ?_ | ((with_reducible refine Ask.mk ?_); first | exact aAsk | exact aAsk2 | (intro h; simp_all [UnitS.cells, Graph.cells] <;> fail) | (simp_all [UnitS.cells, Graph.cells] <;> fail)) | (apply Go.elem; (· (first | exact eg _ | exact hrep _ | exact aElem))) | refine aK (hb) ?_ | refine aK (hl) ?_ | refine aH ?_ | ((with_reducible refine Go.bool ?_ ?_) <;> intro hc <;> (try simp only [List.length_map, ne_eq, hcs] at hc) <;> try (exfalso; omega)))
        have hw := hgo.whole
        refine Go.loop (fun σ : Nat × List Bool × List Int × Bool => [(2, i64 i), (3, i64 q), (9, .im 1 .any ((liveT g).map imB)), (11, .pt 17 1 0 0), (12, .sl 49 g.nodes.length), (13, .sl 56 σ.2.2.1.length), (14, bl σ.2.2.2), (15, i64 σ.1)])
          (fun σ H n => 60 ≤ n ∧ σ.1 ≤ σ.2.2.1.length ∧ Wayg g q i σ.2.1 σ.2.2.1 σ.1 σ.2.2.2 ∧ (∃ d, getH H 17 = some (.row 33 4 d [g.av])) ∧ (∃ d, getH H 49 = some (.row 4 1 d (σ.2.1.map bl))) ∧ ∃ d, getH H 56 = some (.row 3 1 d (σ.2.2.1.map i64)))
          (fun σ => g.nodes.length - σ.1) (0, (List.replicate g.nodes.length false).set i true, [(i : Int)], false) (by rw [← List.length_map (f := Node.av)]; exact aLess) ⟨aNx, Nat.zero_le _, Wayg.start (by omega), ⟨_, aRow⟩, ⟨_, by rw [← hst]; exact aRow⟩, ⟨_, aRow⟩⟩ ?_
        rintro ⟨k2, seen, todo, rd⟩ H n ⟨hn, hkt, hwy, ⟨d17, r17⟩, ⟨d49, r49⟩, ⟨d56, r56⟩⟩
        dsimp only at hkt hwy r49 r56 ⊢
        have hcnt := hwy.count
        have hsn := hwy.len
        have hml : (todo.map i64).length = todo.length := by simp
        have hol : (seen.map bl).length = g.nodes.length := by simp [hsn]
        by_cases hgo2 : k2 < todo.length ∧ rd = false
        · obtain ⟨hk2, rfl⟩ := hgo2
          obtain ⟨x0, x1, x2⟩ := hwy.inr _ (getD_mem' 0 hk2)
          have et := fun d => int_at (l := todo) hk2 d
          have hnx := fun rr => hwy.next hw hk2 (s2 := rr)
          have hskip := hwy.skip hk2
          generalize hx : todo.getD k2 0 = x at *
          have en := fun d => nd_at (l := g.nodes) x1 d
          have hno := hgo.node x1
          have hrd := lreads_pure (g.nd x.toNat) hno q
          have hfo := rfollows_pure (g.nd x.toNat)
          have hlss : (k2 : Int) < (todo.length : Int) := by omega
          repeat' (first | ((with_reducible refine Go.red ?_); conv => whnf) | refine aG ?_ | exact aCn | with_reducible refine Go.and ?_ ?_ | ((with_reducible refine Ask.mk ?_); first | exact aAsk | (exact hml) | exact aAsk2 | (intro h; simp_all [Graph.cells, Node.cells] <;> fail) | (simp_all [Graph.cells, Node.cells] <;> fail)) | (apply Go.elem; (· (first | exact et _ | exact en _ | exact aElem))) | refine aK (hrd) ?_ | refine aK (hfo) ?_ | (simp only [hlss, decide_true]) | refine aH ?_ | ((with_reducible refine Go.bool ?_ ?_) <;> intro hc <;> (try simp only [List.length_map, ne_eq, hcs] at hc) <;> try (exfalso; omega)))
          · have hc' : (((g.nd x.toNat).kind = 1 ∨ (g.nd x.toNat).kind = 2) ∨ (g.nd x.toNat).kind = 4) ∧ (g.nd x.toNat).slot = (q : Int) := hc
            have hkp : keepsB (g.nd x.toNat) q = false := by
              unfold keepsB setsB
              rw [decide_eq_true (by omega), decide_eq_false (by omega)]; rfl
            exact ⟨(k2 + 1, seen, todo, readsB (g.nd x.toNat) q), by dsimp only; omega, aLess, aNx, by dsimp only; omega, hskip hkp, ⟨_, aRow⟩, ⟨_, aRow⟩, ⟨_, aRow⟩⟩
          · have hc' : ¬((((g.nd x.toNat).kind = 1 ∨ (g.nd x.toNat).kind = 2) ∨ (g.nd x.toNat).kind = 4) ∧ (g.nd x.toNat).slot = (q : Int)) := fun h => Or.elim hc (fun e => e h.1) (fun e => e h.2)
            have hkp : keepsB (g.nd x.toNat) q = true := by
              unfold keepsB setsB
              by_cases e : (g.nd x.toNat).kind = 1 ∨ (g.nd x.toNat).kind = 2 ∨ (g.nd x.toNat).kind = 4
              · rw [decide_eq_true e, decide_eq_true (by omega)]; rfl
              · rw [decide_eq_false e]; rfl
            have hnx2 := fun rr => hnx rr hkp
            clear hnx hskip hrd hfo hc hc' et en
            generalize readsB (g.nd x.toNat) q = rd2 at *
            refine Go.loop (fun σ : (List Bool × List Int) × Nat => [(2, i64 i), (3, i64 q), (9, .im 1 .any ((liveT g).map imB)), (11, .pt 17 1 0 0), (12, .sl 49 g.nodes.length), (13, .sl 56 σ.1.2.length), (14, bl rd2), (15, i64 k2), (17, imF (g.nd x.toNat).fol), (18, i64 σ.2)])
              (fun σ H n => 60 ≤ n ∧ σ.2 ≤ (g.nd x.toNat).fol.length ∧ σ.1.1.length = g.nodes.length ∧ σ.1.2.length + σ.1.1.count false = g.nodes.length ∧ spTo ((g.nd x.toNat).fol.drop σ.2) σ.1 = spTo (g.nd x.toNat).fol (seen, todo) ∧ (∃ d, getH H 17 = some (.row 33 4 d [g.av])) ∧ (∃ d, getH H 49 = some (.row 4 1 d (σ.1.1.map bl))) ∧ ∃ d, getH H 56 = some (.row 3 1 d (σ.1.2.map i64)))
              (fun σ => (g.nd x.toNat).fol.length - σ.2) ((seen, todo), 0) aLess ⟨aNx, Nat.zero_le _, hsn, hcnt, rfl, ⟨_, aRow⟩, ⟨_, aRow⟩, ⟨_, aRow⟩⟩ ?_
            have hfl := fol_len (g.nd x.toNat)
            clear r17 r49 r56
            rintro ⟨⟨o2, t2⟩, j⟩ H2 n2 ⟨hn2, hj, ho2, hc2, hsp, ⟨d17, r17⟩, ⟨d49, r49⟩, ⟨d56, r56⟩⟩
            dsimp only at hj ho2 hc2 hsp r49 r56 ⊢
            have hol2 : (o2.map bl).length = g.nodes.length := by simp [ho2]
            have htl2 : (t2.map i64).length = t2.length := by simp
            unfold imF
            by_cases hjl : j < (g.nd x.toNat).fol.length
            · obtain ⟨y0, y1⟩ := (hw.2.2 x.toNat x1).2.2 _ (getD_mem' 0 hjl)
              have ej := fun d => int_at (l := (g.nd x.toNat).fol) hjl d
              have ek := fun d => bool_at (l := o2) (k := (g.nd x.toNat).fol.getD j 0) d (by rw [ho2]; exact y1)
              rw [spTo_drop _ _ hjl] at hsp
              generalize (g.nd x.toNat).fol.getD j 0 = y at *
              cases hfd : fnd o2 y with
              | true =>
                rw [if_neg (by rw [hfd]; decide)] at hsp
                rw [hfd] at ek
                repeat' (first | ((with_reducible refine Go.red ?_); conv => whnf) | refine aG ?_ | exact aCn | with_reducible refine Go.and ?_ ?_ | ((with_reducible refine Ask.mk ?_); first | exact aAsk | (exact hol2) | exact aAsk2) | (apply Go.elem; (· (first | exact ej _ | exact ek _ | exact aElem))) | refine aH ?_ | ((with_reducible refine Go.bool ?_ ?_) <;> intro hc <;> (try simp only [List.length_map, ne_eq, hcs] at hc) <;> try (exfalso; omega)))
                exact ⟨((o2, t2), j + 1), by dsimp only; omega, aLess, aNx, by dsimp only; omega, ho2, hc2, hsp, ⟨_, aRow⟩, ⟨_, aRow⟩, ⟨_, aRow⟩⟩
              | false =>
                rw [if_pos hfd] at hsp
                rw [hfd] at ek
                have hct := count_set (l := o2) (i := y.toNat) (by rw [ho2]; exact y1) hfd
                repeat' (first | ((with_reducible refine Go.red ?_); conv => whnf) | refine aG ?_ | exact aCn | with_reducible refine Go.and ?_ ?_ | ((with_reducible refine Ask.mk ?_); first | exact aAsk | (exact hol2) | exact aAsk2) | (apply Go.elem; (· (first | exact ej _ | exact ek _ | exact aElem))) | refine aH ?_ | ((with_reducible refine Go.bool ?_ ?_) <;> intro hc <;> (try simp only [List.length_map, ne_eq, hcs] at hc) <;> try (exfalso; omega)))
                refine ⟨((o2.set y.toNat true, t2 ++ [y]), j + 1), by dsimp only; omega, aLess, aNx, by dsimp only; omega, by simp [ho2], ?_, hsp, ⟨_, aRow⟩, ⟨_, by rw [← bool_set]; exact aRow⟩, ⟨_, by rw [← ints_app]; exact aRow⟩⟩
                simp only [List.length_append, List.length_cons, List.length_nil]
                omega
            · have : j = (g.nd x.toNat).fol.length := by omega
              subst this
              rw [List.drop_eq_nil_of_le (Nat.le_refl _), spTo] at hsp
              have hwy2 := hnx2 _ hsp
              dsimp only at hwy2
              have hle := (spTo_spread (g.nd x.toNat).fol (seen, todo) (fun k hk => by have := (hw.2.2 x.toNat x1).2.2 k hk; rw [← hsn] at this; exact this)).more
              rw [← hsp] at hle
              obtain ⟨tt, ht1, _⟩ := hle
              dsimp only at ht1
              have hlt : t2.length = todo.length + tt.length := by rw [ht1, List.length_append]
              repeat' (first | ((with_reducible refine Go.red ?_); conv => whnf) | refine aG ?_ | exact aC | with_reducible refine Go.and ?_ ?_ | (apply Go.elem; (· exact aElem)) | refine aH ?_ | ((with_reducible refine Go.bool ?_ ?_) <;> intro hc <;> (try simp only [List.length_map, ne_eq, hcs] at hc) <;> try (exfalso; omega)))
              exact ⟨(k2 + 1, o2, t2, rd2), by dsimp only; omega, aLess, aNx, by dsimp only; omega, hwy2, ⟨_, aRow⟩, ⟨_, aRow⟩, ⟨_, aRow⟩⟩
        · have hfin := hwy.fin hw (by
            by_cases h1 : k2 < todo.length
            · right
              cases rd with
              | true => rfl
              | false => exact absurd ⟨h1, rfl⟩ hgo2
            · left; omega)
          have htg := tget_ahdT g readsB keepsB g.slots.toNat (i := i) (k := q) (by omega) (by omega)
          have hshr := (shape_ahdT g readsB keepsB g.slots.toNat).row i (by omega)
          have hel : ∀ d, ((liveT g).map imB).getD ((i : Int)).toNat d = .im 1 .any (((liveT g).getD i []).map bl) := fun d => by
            rw [imB_at (T := liveT g) (i := (i : Int)) (by rw [Int.toNat_natCast, hsh]; omega) d, Int.toNat_natCast]
          have hel2 := fun d => bl_at (l := (liveT g).getD i []) (k := q) (by rw [show (liveT g).getD i [] = (ahdT g readsB keepsB g.slots.toNat).getD i [] from rfl, hshr]; omega) d
          have hrl : (liveT g).getD i [] = (ahdT g readsB keepsB g.slots.toNat).getD i [] := rfl
          have hlr : (((liveT g).getD i []).map bl).length = g.slots.toNat := by rw [List.length_map, hrl, hshr]
          have hlT : ((liveT g).map imB).length = g.nodes.length := by rw [List.length_map, hsh]
          have hval : ((liveT g).getD i []).getD q false = rd := by
            rw [Bool.eq_iff_iff, hfin]
            exact htg
          by_cases h1 : k2 < todo.length
          · have hlss : (k2 : Int) < (todo.length : Int) := by omega
            cases rd with
            | false => exact absurd ⟨h1, rfl⟩ hgo2
            | true =>
              repeat' (first | ((with_reducible refine Go.red ?_); conv => whnf) | refine aG ?_ | exact aCn | with_reducible refine Go.and ?_ ?_ | ((with_reducible refine Ask.mk ?_); first | exact aAsk | (exact hlT) | (exact hlr) | exact aAsk2 | (intro h; simp_all [Graph.cells] <;> fail) | (simp_all [Graph.cells] <;> fail)) | (apply Go.elem; (· (first | exact hel _ | exact hel2 _ | exact aElem))) | (simp only [hlss, decide_true]) | refine aH ?_ | ((with_reducible refine Go.bool ?_ ?_) <;> intro hc <;> (try simp only [List.length_map, ne_eq, hcs] at hc) <;> try (exfalso; omega)))
              exact bl_eq (by rw [decide_eq_true (by rw [hlr]; omega), hval]; simp)
          · have hlss : ¬ (k2 : Int) < (todo.length : Int) := by omega
            repeat' (first | ((with_reducible refine Go.red ?_); conv => whnf) | refine aG ?_ | exact aCn | with_reducible refine Go.and ?_ ?_ | ((with_reducible refine Ask.mk ?_); first | exact aAsk | (exact hlT) | (exact hlr) | exact aAsk2 | (intro h; simp_all [Graph.cells] <;> fail) | (simp_all [Graph.cells] <;> fail)) | (apply Go.elem; (· (first | exact hel _ | exact hel2 _ | exact aElem))) | (simp only [hlss, decide_false]) | refine aH ?_ | ((with_reducible refine Go.bool ?_ ?_) <;> intro hc <;> (try simp only [List.length_map, ne_eq, hcs] at hc) <;> try (exfalso; omega)))
            exact bl_eq (by rw [decide_eq_true (by rw [hlr]; omega), hval]; simp)
      · repeat' (first | ((with_reducible refine Go.red ?_); conv => whnf) | refine aG ?_ | exact aCn | with_reducible refine Go.and ?_ ?_ | ((with_reducible refine Ask.mk ?_); first | exact aAsk | exact aAsk2 | (intro h; simp_all [UnitS.cells, Graph.cells] <;> fail) | (simp_all [UnitS.cells, Graph.cells] <;> fail)) | (apply Go.elem; (· (first | exact eg _ | exact aElem))) | refine aK (hb) ?_ | refine aK (hl) ?_ | refine aH ?_ | ((with_reducible refine Go.bool ?_ ?_) <;> intro hc <;> (try simp only [List.length_map, ne_eq, hcs] at hc) <;> try (exfalso; omega)))
        all_goals first | exact bl_eq (by simp [hsh]) | skip
  · rw [if_neg (mt rightB_iff.1 hr)] at hl
    repeat' (first | ((with_reducible refine Go.red ?_); conv => whnf) | refine aG ?_ | exact aCn | with_reducible refine Go.and ?_ ?_ | ((with_reducible refine Ask.mk ?_); first | exact aAsk | exact aAsk2 | (intro h; simp_all [UnitS.cells] <;> fail) | (simp_all [UnitS.cells] <;> fail)) | (apply Go.elem; (· exact aElem)) | refine aK (hb) ?_ | refine aK (hl) ?_ | refine aH ?_ | ((with_reducible refine Go.bool ?_ ?_) <;> intro hc <;> (try simp only [List.length_map, ne_eq, hcs] at hc) <;> try (exfalso; omega)))
    exact rfl
end Go.Proofs.YtmonponfppdgfaaDoor
end
section
/- A slot is live ahead of a node just if some way from there reads it before it is set: for every unit, thread, node and slot. No conditions beyond the card's own: the library's table starts as its text lays it. -/
namespace Go.Proofs.YtmonponfppdgfaaDoor
open Go Go.Abs Go.Proofs Go.RowKit Go.ChangeShapes Go.WideShapes Go.ChangeAt
set_option linter.unusedSimpArgs false
set_option linter.unusedVariables false
set_option maxRecDepth 100000 in
theorem deadReads_lifted (os : Os) (started : os.Started) (H : Type) (enc : TypeId × Value → H) :
    ReturnsInHanded {} Tryd.checked os 4 .any (fun w args => (Rows.deadReadsSpec.pre enc Tryd.prog Tryd.f4 [] false w args ∧ laidMetH Tryd.prog laidT w) ∧ sizedMet enc Tryd.prog Tryd.f4 (OpenSpec.ofChange Rows.deadReadsSpec) false w args) (Rows.deadReadsSpec.post enc Tryd.prog Tryd.f4 false true false false) := by
  refine returnsInHanded_of_change_and (C := Tryd.checked) (X := fun w _ => laidMetH Tryd.prog laidT w) (fun _ _ _ hh h => h.of_heap hh) own started (by kernel_rfl) Tryd.func4
    (ChangeSpec.witness_shaped (enc := enc) (C := Tryd.checked) (os := os) (X := fun w _ => laidMetH Tryd.prog laidT w) false (World.doorLaid Tryd.prog 400 os) #[.agg #[.slice none 0 0, .slice none 0 0, .slice none 0 0], .int .i64 0, .int .i64 0, .int .i64 0] 8 rfl (World.shaped_of_RefB (by kernel_rfl) (by kernel_rfl)) (by kernel_rfl) (by kernel_rfl) (by kernel_rfl) (door_met os _)) ?_
  intro W base args ds gs before hval hW _ hr hL _
  refine law_contract (ts := [25, 3, 3, 3]) (tb := 4) laidOut (by kernel_rfl) rfl Tryd.underlying4 (by kernel_rfl) (fun ds h => ?_) (fun t ht => ?_)
    (opensAll_cons (ag := true) (by kernel_rfl) opens_unit (fun h => by cases h) (opensAll_cons (ag := false) (by kernel_rfl) (opens_int64 Tryd.underlying3) (fun _ _ _ => rfl) (opensAll_cons (ag := false) (by kernel_rfl) (opens_int64 Tryd.underlying3) (fun _ _ _ => rfl) (opensAll_cons (ag := false) (by kernel_rfl) (opens_int64 Tryd.underlying3) (fun _ _ _ => rfl) opensAll_nil))))
    (fun a h => ?_) hval hW hr (of_laid hL)
  · match ds, h with
    | [d0, d1, d2, d3], _ => rfl
  · have : ∀ t ∈ [25, 3, 3, 3], Tryd.prog.readableRec t = true ∧ t < Tryd.prog.types.size := by
      simp only [List.forall_mem_cons]
      refine ⟨⟨by kernel_rfl, of_decide_eq_true (by kernel_rfl)⟩, ⟨by kernel_rfl, of_decide_eq_true (by kernel_rfl)⟩, ⟨by kernel_rfl, of_decide_eq_true (by kernel_rfl)⟩, ⟨by kernel_rfl, of_decide_eq_true (by kernel_rfl)⟩, by simp⟩
    exact this t ht
  · exact deadReads_main a.1 h.1 a.2.1 a.2.2.1 a.2.2.2.1 h.2.1 h.2.2.1 h.2.2.2.1
theorem deadReads_row : Rows.DeadReadsSaid :=
  OpenClaim.holds_of_wide 4 Tryd.f4 rfl rfl rfl rfl rfl rfl rfl ⟨rfl, rfl, rfl, rfl, rfl⟩ rfl rfl rfl rfl rfl (by kernel_rfl) Tryd.func4 (by kernel_rfl)
    (of_decide_eq_true (by kernel_rfl)) (by unfold Func.isWrapper; first | (rw [if_pos (by decide +kernel)]; kernel_rfl) | (rw [if_neg (by decide +kernel)]; exact ⟨rfl, rfl⟩))
    (fun os started H enc _ => deadReads_lifted os started H enc)
set_option maxRecDepth 100000 in
theorem deadReads_holds : Rows.DeadReadsCardSaid :=
  Claim7.holds_tied_plain_at .later [] [.data] true (true, "b8da0b6d94c79170f3326ac348dec9f8c494314b9b22c81bf5f264d8e5f95cb0") false
    deadReads_row (fun _ h => by cases h) (by kernel_rfl) (fun _ h => by cases h) deadReads_row_tie rfl ⟨rfl, rfl⟩ (by kernel_rfl) rfl
    (fun f fn hf hfn => by
      obtain rfl : f = 4 := Option.some.inj ((show Tryd.prog.funcNamed "stile/stilelaw14.DeadReads" = some 4 by kernel_rfl).symm.trans hf) |>.symm
      obtain rfl : fn = Tryd.f4 := (Option.some.inj (Tryd.func4.symm.trans hfn)).symm
      exact ⟨by kernel_rfl, fun j t ht => by
        rw [show Tryd.f4.params = #[25, 3, 3, 3] by kernel_rfl] at ht
        have hm : t ∈ [25, 3, 3, 3] := by simpa using Array.mem_of_getElem? ht
        have hall : ([25, 3, 3, 3].all fun u => !Tryd.prog.wantsStandIn u) = true := by kernel_rfl
        exact (show Tryd.prog.wantsStandIn t = false by simpa using List.all_eq_true.1 hall t hm)⟩)
    (by kernel_rfl)
end Go.Proofs.YtmonponfppdgfaaDoor
end
