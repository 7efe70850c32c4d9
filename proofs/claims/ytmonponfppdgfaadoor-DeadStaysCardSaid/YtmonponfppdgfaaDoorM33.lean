import Derived.Test.YtmonponfppdgfaaDoorM29
import Derived.Test.YtmonponfppdgfaaDoorM32
import Derived.Test.YtmonponfppdgfaaDoorM31
section
/- A thread without what can be left out: the walk. -/
namespace Go.Proofs.YtmonponfppdgfaaDoor
open Go Go.Abs Go.Proofs
set_option linter.unusedSimpArgs false
set_option linter.unusedVariables false
abbrev natI (l : List Nat) : List AV := l.map fun (i : Nat) => i64 (i : Int)
theorem nats_app (l : List Nat) (k : Nat) : natI l ++ [i64 (k : Int)] = natI (l ++ [k]) := by simp [natI]
theorem nat_at {l : List Nat} {i : Nat} (h : i < l.length) (d : AV) : (natI l).getD ((i : Int)).toNat d = i64 (l.getD i 0 : Nat) := by
  rw [Int.toNat_natCast]; exact getD_av (fun (i : Nat) => i64 (i : Int)) l i d h
noncomputable def lookG0 : AV := .agg [.sc (.string ⟨#[]⟩), i64 0, i64 0, .sc (.slice none 0 0)]
set_option maxHeartbeats 8000000 in
theorem once_call (u : UnitS) (g : Graph) (hg : g.Wf) (hk : GraphOk u g) (t : Nat) (cls : List ClassV) (hcl : cls.length = u.shared.length) (hcl64 : cls.length ≤ 64) (H : Hp) (nx : Nat) :
    CallN Tryd.prog 25 [lookX g t cls] H nx (fun r H2 n2 => ∃ b d, r = .agg [st g.name, i64 g.locals, i64 g.slots, .sl b (onceG g cls t).nodes.length] ∧ nx ≤ b ∧ b < n2 ∧ getH H2 b = some (.row 46 13 d ((onceG g cls t).nodes.map Node.av)) ∧ ∀ y, y < nx → getH H2 y = getH H y) := by
  have hl := hg.len
  have hw := hk.whole
  have hk0 := hk
  have hl0 := hw.1
  have hl1 := hw.2.1
  have hil := idleL_len g cls t
  have hends : Ends (idleL g cls t) g := ends_idle _ _
  have hinx : ∀ j, tf (idleL g cls t) j = true → 0 ≤ (g.nd j).next ∧ (g.nd j).next < (idleL g cls t).length := fun j hj => by
    rw [hil]; exact such_next hk (idleOf_get.1 hj).1
  have hh0 : heir (idleL g cls t) g 0 < g.nodes.length := heir_ind hends (P := fun i => i < g.nodes.length) (fun i hi _ => by have := hinx i hi; rw [hil] at this; show (g.nd i).next.toNat < _; omega) (by omega)
  unfold onceG
  have hhc := fun b H nx d hb hbn => heirs_call g hg t cls (idleL g cls t) hil (by omega) hends hinx b H nx d hb hbn
  simp only [hil] at hhc
  generalize hid : idleL g cls t = out at *
  refine Go.fnL lf25 rfl ?_
  repeat' (first | ((with_reducible refine Go.red ?_); conv => whnf) | refine aG ?_ | exact aCn | with_reducible refine Go.and ?_ ?_ | ((with_reducible refine Ask.mk ?_); first | exact aAsk | exact aAsk2 | (intro h; simp_all [lookCells] <;> fail) | (simp_all [lookCells] <;> fail)) | (apply Go.elem; (· exact aElem)) | refine aH ?_ | ((with_reducible refine Go.bool ?_ ?_) <;> intro hc <;> (try simp only [List.length_map, ne_eq, hcs] at hc) <;> try (exfalso; omega)))
  refine Go.callN (idle_call u g hg hk t cls hcl hcl64 _ _) ?_
  rintro _ H1 n1 ⟨bi, di, rfl, hb1, hb2, ri, hk1⟩
  rw [hid] at ri
  have r0 : getH H1 nx = some (.row 33 4 (zav true [.string ⟨#[]⟩, .int .i64 0, .int .i64 0, .slice none 0 0]) [zav true [.string ⟨#[]⟩, .int .i64 0, .int .i64 0, .slice none 0 0]]) := (hk1 nx aNx).trans aRow
  have hk1' : ∀ y, y < nx → getH H1 y = getH H y := fun y hy => (hk1 y (Nat.lt_of_lt_of_le hy aNx)).trans aSkip
  have hb1' : nx + 2 ≤ bi := Nat.le_trans aNx hb1
  clear hk1 hb1
  repeat' (first | ((with_reducible refine Go.red ?_); conv => whnf) | refine aG ?_ | exact aCn | with_reducible refine Go.and ?_ ?_ | ((with_reducible refine Ask.mk ?_); first | exact aAsk | exact aAsk2 | (intro h; simp_all [lookCells] <;> fail) | (simp_all [lookCells] <;> fail)) | (apply Go.elem; (· exact aElem)) | refine aH ?_ | ((with_reducible refine Go.bool ?_ ?_) <;> intro hc <;> (try simp only [List.length_map, ne_eq, hcs] at hc) <;> try (exfalso; omega)))
  refine Go.callN (hhc bi _ _ di aRow aNx) ?_
  rintro _ H2 n2 ⟨mm, dm, em, F, rfl, hm1, hm2, rm, hF, hk2⟩
  have hm1' : n1 + 3 ≤ mm := Nat.le_trans aNx hm1
  have r02 : getH H2 nx = some (.row 33 4 (zav true [.string ⟨#[]⟩, .int .i64 0, .int .i64 0, .slice none 0 0]) [zav true [.string ⟨#[]⟩, .int .i64 0, .int .i64 0, .slice none 0 0]]) := (hk2 nx aNx).trans aRow
  have ri2 : getH H2 bi = some (.row 4 1 di (out.map bl)) := (hk2 bi aNx).trans aRow
  have hk2' : ∀ y, y < nx → getH H2 y = getH H y := fun y hy => (hk2 y (Nat.lt_of_lt_of_le hy aNx)).trans (Eq.trans aSkip (hk1' y hy))
  clear hk2 hk1' ri r0
  have hF0 := hF 0 (by omega)
  have e0 : mget false (.int .i64 0) (mapN F) (i64 0) = some (i64 (heir out g 0 : Int), true) := by
    rw [getN, show lookE F 0 = some (heir out g 0 : Int) from hF0]; rfl
  repeat' (first | ((with_reducible refine Go.red ?_); conv => whnf) | refine aG ?_ | exact aCn | with_reducible refine Go.and ?_ ?_ | ((with_reducible refine Ask.mk ?_); first | exact aAsk | exact aAsk2 | (intro h; simp_all [lookCells] <;> fail) | (simp_all [lookCells] <;> fail)) | (apply Go.elem; (· exact aElem)) | (apply Go.givesG (g := none); (· exact fun _ => e0)) | refine aH ?_ | ((with_reducible refine Go.bool ?_ ?_) <;> intro hc <;> (try simp only [List.length_map, ne_eq, hcs] at hc) <;> try (exfalso; omega)))
  have hbm : bi ≠ mm := by omega
  have ho0 : ([i64 (heir out g 0 : Int)] : List AV) = natI (orderTo g out 0) := rfl
  have hml : (out.map bl).length = g.nodes.length := by rw [List.length_map, hil]
  have hrl : ((reachL g (-1)).map bl).length = g.nodes.length := by rw [List.length_map, reachL_len]
  refine Go.loop (fun i : Nat => [(0, lookX g t cls), (2, .pt nx 1 0 0), (3, .sl bi g.nodes.length), (4, .mp mm), (5, .sl (n2 + 3) (orderTo g out i).length), (27, i64 g.nodes.length), (28, i64 i)])
    (fun i H' n' => i ≤ g.nodes.length ∧ n2 + 11 ≤ n' ∧ (∃ d, getH H' nx = some (.row 33 4 d [lookG0])) ∧ (∃ d, getH H' bi = some (.row 4 1 d (out.map bl))) ∧ (∃ d, getH H' mm = some (.row em 0 d (mapA (mapN F)))) ∧ (∃ d, getH H' (n2 + 3) = some (.row 3 1 d (natI (orderTo g out i)))) ∧ ∀ y, y < nx → getH H' y = getH H y) (fun i => g.nodes.length - i) 0 (by rw [← List.length_map (f := Node.av)]; exact aLess) ⟨Nat.zero_le _, aNx, ⟨_, aRow⟩, ⟨_, aRow⟩, ⟨_, aRow⟩, ⟨_, by rw [← ho0]; exact aRow⟩, fun y hy => Eq.trans aSkip (hk2' y hy)⟩ ?_
  clear r02 ri2 rm hk2'
  rintro i H3 n3 ⟨hi, hn3, ⟨dg, rg⟩, ⟨di, ri⟩, ⟨dm, rm⟩, ⟨d5, r5⟩, hk3⟩
  by_cases hilt : i < g.nodes.length
  · have er := fun d => bools_at (l := reachL g (-1)) (k := i) d (by rw [reachL_len]; exact hilt)
    have eo := fun d => bl_at (l := out) (k := i) (by rw [hil]; exact hilt) d
    have hnx := orderTo_next g out i
    have hol := orderTo_len (m := i) hh0 hi
    have homl : (natI (orderTo g out i)).length = (orderTo g out i).length := by simp [natI]
    cases hrc : fnd (reachL g (-1)) (i : Int) with
    | false =>
      rw [hrc] at er
      rw [if_neg (by unfold keepsI; rw [hrc]; simp)] at hnx
      repeat' (first | ((with_reducible refine Go.red ?_); conv => whnf) | refine aG ?_ | exact aCn | with_reducible refine Go.and ?_ ?_ | ((with_reducible refine Ask.mk ?_); first | exact aAsk | (exact hrl) | (exact hml) | exact aAsk2 | (intro h; simp_all [lookCells] <;> fail) | (simp_all [lookCells] <;> fail)) | (apply Go.elem; (· (first | exact er _ | exact eo _ | exact aElem))) | (apply Go.givesG (g := none); (· exact fun _ => e0)) | (apply Go.givesG (g := some _); (· exact fun _ => e0)) | refine aH ?_ | ((with_reducible refine Go.bool ?_ ?_) <;> intro hc <;> (try simp only [List.length_map, ne_eq, hcs] at hc) <;> try (exfalso; omega)))
      exact ⟨i + 1, by omega, by rw [hnx]; exact aLess, by omega, by omega, ⟨_, aRow⟩, ⟨_, aRow⟩, ⟨_, aRow⟩, ⟨_, by rw [hnx]; exact aRow⟩, fun y hy => Eq.trans aSkip (hk3 y hy)⟩
    | true =>
      rw [hrc] at er
      cases hto : tf out i with
      | true =>
        rw [show out.getD i false = true from hto] at eo
        rw [if_neg (by unfold keepsI; rw [hto]; simp)] at hnx
        repeat' (first | ((with_reducible refine Go.red ?_); conv => whnf) | refine aG ?_ | exact aCn | with_reducible refine Go.and ?_ ?_ | ((with_reducible refine Ask.mk ?_); first | exact aAsk | (exact hrl) | (exact hml) | exact aAsk2 | (intro h; simp_all [lookCells] <;> fail) | (simp_all [lookCells] <;> fail)) | (apply Go.elem; (· (first | exact er _ | exact eo _ | exact aElem))) | (apply Go.givesG (g := none); (· exact fun _ => e0)) | (apply Go.givesG (g := some _); (· exact fun _ => e0)) | refine aH ?_ | ((with_reducible refine Go.bool ?_ ?_) <;> intro hc <;> (try simp only [List.length_map, ne_eq, hcs] at hc) <;> try (exfalso; omega)))
        exact ⟨i + 1, by omega, by rw [hnx]; exact aLess, by omega, by omega, ⟨_, aRow⟩, ⟨_, aRow⟩, ⟨_, aRow⟩, ⟨_, by rw [hnx]; exact aRow⟩, fun y hy => Eq.trans aSkip (hk3 y hy)⟩
      | false =>
        rw [show out.getD i false = false from hto] at eo
        by_cases hih : i = heir out g 0
        · have hihz : ((i : Int) = (heir out g 0 : Int)) := by omega
          rw [if_neg (by unfold keepsI; rw [decide_eq_false (fun h => h hih)]; simp)] at hnx
          repeat' (first | ((with_reducible refine Go.red ?_); conv => whnf) | refine aG ?_ | exact aCn | with_reducible refine Go.and ?_ ?_ | ((with_reducible refine Ask.mk ?_); first | exact aAsk | (exact hrl) | (exact hml) | exact aAsk2 | (intro h; simp_all [lookCells] <;> fail) | (simp_all [lookCells] <;> fail)) | (apply Go.elem; (· (first | exact er _ | exact eo _ | exact aElem))) | (apply Go.givesG (g := none); (· exact fun _ => e0)) | (apply Go.givesG (g := some _); (· exact fun _ => e0)) | refine aH ?_ | ((with_reducible refine Go.bool ?_ ?_) <;> intro hc <;> (try simp only [List.length_map, ne_eq, hcs] at hc) <;> try (exfalso; omega)))
          exact ⟨i + 1, by omega, by rw [hnx]; exact aLess, by omega, by omega, ⟨_, aRow⟩, ⟨_, aRow⟩, ⟨_, aRow⟩, ⟨_, by rw [hnx]; exact aRow⟩, fun y hy => Eq.trans aSkip (hk3 y hy)⟩
        · rw [if_pos (by unfold keepsI; rw [hrc, hto, decide_eq_true hih]; rfl)] at hnx
          repeat' (first | ((with_reducible refine Go.red ?_); conv => whnf) | refine aG ?_ | exact aCn | with_reducible refine Go.and ?_ ?_ | ((with_reducible refine Ask.mk ?_); first | exact aAsk | (exact hrl) | (exact hml) | exact aAsk2 | (intro h; simp_all [lookCells] <;> fail) | (simp_all [lookCells] <;> fail)) | (apply Go.elem; (· (first | exact er _ | exact eo _ | exact aElem))) | (apply Go.givesG (g := none); (· exact fun _ => e0)) | (apply Go.givesG (g := some _); (· exact fun _ => e0)) | refine aH ?_ | ((with_reducible refine Go.bool ?_ ?_) <;> intro hc <;> (try simp only [List.length_map, ne_eq, hcs] at hc) <;> try (exfalso; omega)))
          · exact ⟨i + 1, by omega, by rw [hnx]; exact aLess, by omega, by omega, ⟨_, aRow⟩, ⟨_, aRow⟩, ⟨_, aRow⟩, ⟨_, by rw [hnx, ← nats_app]; exact aRow⟩, fun y hy => Eq.trans aSkip (hk3 y hy)⟩
          · exact hc.elim (fun h => absurd ⟨trivial, trivial⟩ h) (fun h => absurd (Int.ofNat.inj h) hih)
  · have : i = g.nodes.length := by omega
    subst this
    have hnd := orderTo_nodup g out g.nodes.length
    have hlt := orderTo_lt (m := g.nodes.length) hh0 (Nat.le_refl _)
    have hol := orderTo_len (m := g.nodes.length) hh0 (Nat.le_refl _)
    rw [orderTo_all] at r5 hnd hlt hol ⊢
    generalize orderL g out = o at *
    have homl : (natI o).length = o.length := by simp [natI]
    repeat' (first | ((with_reducible refine Go.red ?_); conv => whnf) | refine aG ?_ | exact aCn | with_reducible refine Go.and ?_ ?_ | ((with_reducible refine Ask.mk ?_); first | exact aAsk | (exact homl) | exact aAsk2) | (apply Go.elem; (· exact aElem)) | refine aH ?_ | ((with_reducible refine Go.bool ?_ ?_) <;> intro hc <;> (try simp only [List.length_map, ne_eq, hcs] at hc) <;> try (exfalso; omega)))
    refine Go.loop (fun k : Nat => [(0, lookX g t cls), (2, .pt nx 1 0 0), (4, .mp mm), (5, .sl (n2 + 3) o.length), (7, .mp (n3 + 1)), (57, .sl (n2 + 3) o.length), (58, i64 o.length), (59, i64 k)])
      (fun k H' n' => k ≤ o.length ∧ n3 + 6 ≤ n' ∧ (∃ d, getH H' nx = some (.row 33 4 d [lookG0])) ∧ (∃ d, getH H' mm = some (.row em 0 d (mapA (mapN F)))) ∧ (∃ d, getH H' (n2 + 3) = some (.row 3 1 d (natI o))) ∧ (∃ d, getH H' (n3 + 1) = some (.row 3 0 d (mapA (mapN (numTo o k))))) ∧ ∀ y, y < nx → getH H' y = getH H y) (fun k => o.length - k) 0 aLess ⟨Nat.zero_le _, aNx, ⟨_, aRow⟩, ⟨_, aRow⟩, ⟨_, aRow⟩, ⟨_, aRow⟩, fun y hy => Eq.trans aSkip (hk3 y hy)⟩ ?_
    clear rg ri rm r5 hk3
    rintro k H4 n4 ⟨hkl, hn4, ⟨dg, rg⟩, ⟨dm, rm⟩, ⟨d5, r5⟩, ⟨d7, r7⟩, hk4⟩
    by_cases hk : k < o.length
    · have eo := fun d => nat_at (l := o) (i := k) hk d
      have hnx := numTo_next o k
      repeat' (first | ((with_reducible refine Go.red ?_); conv => whnf) | refine aG ?_ | exact aCn | with_reducible refine Go.and ?_ ?_ | ((with_reducible refine Ask.mk ?_); first | exact aAsk | (exact homl) | exact aAsk2) | (apply Go.elem; (· (first | exact eo _ | exact aElem))) | (apply Go.givesG (g := none); (· exact fun _ => putN _ _ _)) | refine aH ?_ | ((with_reducible refine Go.bool ?_ ?_) <;> intro hc <;> (try simp only [List.length_map, ne_eq, hcs] at hc) <;> try (exfalso; omega)))
      exact ⟨k + 1, by omega, aLess, by omega, by omega, ⟨_, aRow⟩, ⟨_, aRow⟩, ⟨_, aRow⟩, ⟨_, by rw [hnx]; exact aRow⟩, fun y hy => Eq.trans aSkip (hk4 y hy)⟩
    · have : k = o.length := by omega
      subst this
      have hpl := fun i => num_place hnd i
      generalize numTo o o.length = NE at *
      repeat' (first | ((with_reducible refine Go.red ?_); conv => whnf) | refine aG ?_ | exact aCn | with_reducible refine Go.and ?_ ?_ | ((with_reducible refine Ask.mk ?_); first | exact aAsk | (exact homl) | exact aAsk2 | (intro h; simp_all [lookCells] <;> fail) | (simp_all [lookCells] <;> fail)) | (apply Go.elem; (· exact aElem)) | refine aH ?_ | ((with_reducible refine Go.bool ?_ ?_) <;> intro hc <;> (try simp only [List.length_map, ne_eq, hcs] at hc) <;> try (exfalso; omega)))
      have hndl : (g.nodes.map Node.av).length = g.nodes.length := by simp
      refine Go.loopF (fun k : Nat => [(0, lookX g t cls), (2, .pt nx 1 0 0), (4, .mp mm), (7, .mp (n3 + 1)), (10, .pt (n4 + 5) 1 0 0), (73, .sl (n2 + 3) o.length), (74, i64 o.length), (75, i64 k)])
        (fun k H' n' => k ≤ o.length ∧ n4 + 13 ≤ n' ∧ (∃ d, getH H' nx = some (.row 33 4 d [lookG0])) ∧ (∃ d, getH H' mm = some (.row em 0 d (mapA (mapN F)))) ∧ (∃ d, getH H' (n2 + 3) = some (.row 3 1 d (natI o))) ∧ (∃ d, getH H' (n3 + 1) = some (.row 3 0 d (mapA (mapN NE)))) ∧ (∃ d, getH H' (n4 + 5) = some (.row 33 4 d [.agg [st g.name, i64 g.locals, i64 g.slots, .sl (n4 + 12) k]])) ∧ (∃ d, getH H' (n4 + 12) = some (.row 46 13 d ((o.take k).map fun i => (reNode g out o (g.nd i)).av))) ∧ ∀ y, y < nx → getH H' y = getH H y) (fun k => o.length - k) 0
        ⟨_, _, _, Rt.wk (Wk.nilCell (b := n4 + 5) (e := 46) (sz := 13) (by omega) (by omega) (te := 33) (tz := 4) (cs := [st g.name, i64 g.locals, i64 g.slots, .sc (.slice none 0 0)]) (j := 3) aRow (by show 3 < 4; omega) rfl), aLess, Nat.zero_le _, aNx, ⟨_, aRow⟩, ⟨_, aRow⟩, ⟨_, aRow⟩, ⟨_, aRow⟩, ⟨_, aRow⟩, ⟨_, aRow⟩, fun y hy => Eq.trans aSkip (hk4 y hy)⟩ ?_
      clear rg rm r5 r7 hk4
      rintro k H5 n5 ⟨hkl, hn5, ⟨dg, rg⟩, ⟨dm, rm⟩, ⟨d5, r5⟩, ⟨d7, r7⟩, ⟨dc, rc⟩, ⟨dq, rq⟩, hk5⟩
      by_cases hkk : k < o.length
      · have eo := fun d => nat_at (l := o) (i := k) hkk d
        have hom : o.getD k 0 < g.nodes.length := hlt _ (by simp only [List.getD, List.getElem?_eq_getElem hkk, Option.getD_some]; exact List.getElem_mem hkk)
        have htk : (o.take (k + 1)).map (fun i => (reNode g out o (g.nd i)).av) = (o.take k).map (fun i => (reNode g out o (g.nd i)).av) ++ [(reNode g out o (g.nd (o.getD k 0))).av] := by
          rw [List.take_succ_eq_append_getElem hkk, List.map_append, show o.getD k 0 = o[k] by simp only [List.getD, List.getElem?_eq_getElem hkk, Option.getD_some]]; rfl
        generalize o.getD k 0 = i at *
        have en := fun d => nd_at (l := g.nodes) (i := i) hom d
        have hnk : NodeOk u g (g.nd i) := hk0.nodes _ (by simp only [Graph.nd, List.getD, List.getElem?_eq_getElem hom, Option.getD_some]; exact List.getElem_mem hom)
        have hx : ∀ z : Int, 0 ≤ z → z < g.nodes.length → mget false (.int .i64 z) (mapN F) (i64 0) = some (i64 (heir out g z.toNat : Int), true) := fun z h0 h1 => by
          have := hF z.toNat (by omega)
          rw [Int.toNat_of_nonneg h0] at this
          rw [getN, this]; rfl
        have hp : ∀ j : Nat, mget false (.int .i64 (j : Int)) (mapN NE) (i64 0) = some (i64 (placeN o j : Int), (lookE NE (j : Int)).isSome) := fun j => by rw [getN, hpl]
        have hql : ((o.take k).map fun i => (reNode g out o (g.nd i)).av).length = k := by rw [List.length_map, List.length_take]; omega
        by_cases h9 : (g.nodes.getD i default).kind = 9
        · repeat' (first | ((with_reducible refine Go.red ?_); conv => whnf) | refine aG ?_ | exact aCn | with_reducible refine Go.and ?_ ?_ | ((with_reducible refine Ask.mk ?_); first | exact aAsk | (exact homl) | (exact hndl) | (exact hql) | (exact absurd h9 hc) | (simp only [h9]) | exact aAsk2 | (intro h; simp_all [lookCells, Node.cells] <;> fail) | (simp_all [lookCells, Node.cells] <;> fail)) | (apply Go.elem; (· (first | exact eo _ | exact en _ | exact aElem))) | refine aH ?_ | ((with_reducible refine Go.bool ?_ ?_) <;> intro hc <;> (try simp only [List.length_map, ne_eq, hcs] at hc) <;> try (exfalso; omega)))
          all_goals first | exact hql | exact rfl | skip
          have hre : (reNode g out o (g.nd i)).av = (g.nodes.getD i default).av := by
            unfold reNode; rw [if_neg (fun h => h h9), if_neg (fun h => by have h' : (g.nodes.getD i default).kind = 8 := h; omega)]
          exact ⟨k + 1, by omega, _, _, _, Rt.refl _ _ _, aLess, by omega, by omega, ⟨_, aRow⟩, ⟨_, aRow⟩, ⟨_, aRow⟩, ⟨_, aRow⟩, ⟨_, aRow⟩, ⟨_, by rw [htk, hre]; exact aRow⟩, fun y hy => Eq.trans aSkip (hk5 y hy)⟩
        · have hnn := hnk.next.1 (by unfold usesNext; exact decide_eq_true (by have := hnk.kind; have h9' : ¬ (g.nd i).kind = 9 := h9; omega))
          have e1 := hx _ hnn.1 hnn.2
          have e2 := hp (heir out g (g.nd i).next.toNat)
          by_cases h8 : (g.nodes.getD i default).kind = 8
          · have hee := hnk.els.1 h8
            have e3 := hx _ hee.1 hee.2
            have e4 := hp (heir out g (g.nd i).els.toNat)
            repeat' (first | ((with_reducible refine Go.red ?_); conv => whnf) | refine aG ?_ | exact aCn | with_reducible refine Go.and ?_ ?_ | ((with_reducible refine Ask.mk ?_); first | exact aAsk | (exact homl) | (exact hndl) | (exact absurd h8 hc) | exact aAsk2 | (intro h; simp_all [lookCells, Node.cells] <;> fail) | (simp_all [lookCells, Node.cells] <;> fail)) | (apply Go.elem; (· (first | exact eo _ | exact en _ | exact aElem))) | (apply Go.givesG (g := none); (· exact fun _ => e1)) | (apply Go.givesG (g := none); (· exact fun _ => e2)) | (apply Go.givesG (g := none); (· exact fun _ => e3)) | (apply Go.givesG (g := none); (· exact fun _ => e4)) | refine aH ?_ | ((with_reducible refine Go.bool ?_ ?_) <;> intro hc <;> (try simp only [List.length_map, ne_eq, hcs] at hc) <;> try (exfalso; omega)))
            all_goals first | exact hql | exact rfl | skip
            have hre : (reNode g out o (g.nd i)).av = (.agg [u8 (g.nd i).kind, u8 (g.nd i).op, i64 (g.nd i).slot, i64 (g.nd i).thing, bl (g.nd i).a.isSlot, i64 (g.nd i).a.slot, i64 (g.nd i).a.word, bl (g.nd i).b.isSlot, i64 (g.nd i).b.slot, i64 (g.nd i).b.word, i64 (placeN o (heir out g (g.nd i).next.toNat) : Int), i64 (placeN o (heir out g (g.nd i).els.toNat) : Int), i64 (g.nd i).origin]) := by
              unfold reNode; rw [if_pos h9, if_pos h8]; rfl
            exact ⟨k + 1, by omega, _, _, _, Rt.refl _ _ _, aLess, by omega, by omega, ⟨_, aRow⟩, ⟨_, aRow⟩, ⟨_, aRow⟩, ⟨_, aRow⟩, ⟨_, aRow⟩, ⟨_, by rw [htk, hre]; exact aRow⟩, fun y hy => Eq.trans aSkip (hk5 y hy)⟩
          · repeat' (first | ((with_reducible refine Go.red ?_); conv => whnf) | refine aG ?_ | exact aCn | with_reducible refine Go.and ?_ ?_ | ((with_reducible refine Ask.mk ?_); first | exact aAsk | (exact homl) | (exact hndl) | (exact absurd hc h8) | exact aAsk2 | (intro h; simp_all [lookCells, Node.cells] <;> fail) | (simp_all [lookCells, Node.cells] <;> fail)) | (apply Go.elem; (· (first | exact eo _ | exact en _ | exact aElem))) | (apply Go.givesG (g := none); (· exact fun _ => e1)) | (apply Go.givesG (g := none); (· exact fun _ => e2)) | refine aH ?_ | ((with_reducible refine Go.bool ?_ ?_) <;> intro hc <;> (try simp only [List.length_map, ne_eq, hcs] at hc) <;> try (exfalso; omega)))
            all_goals first | exact hql | exact rfl | skip
            have hre : (reNode g out o (g.nd i)).av = (.agg [u8 (g.nd i).kind, u8 (g.nd i).op, i64 (g.nd i).slot, i64 (g.nd i).thing, bl (g.nd i).a.isSlot, i64 (g.nd i).a.slot, i64 (g.nd i).a.word, bl (g.nd i).b.isSlot, i64 (g.nd i).b.slot, i64 (g.nd i).b.word, i64 (placeN o (heir out g (g.nd i).next.toNat) : Int), i64 (g.nd i).els, i64 (g.nd i).origin]) := by
              unfold reNode; rw [if_pos h9, if_neg h8]; rfl
            exact ⟨k + 1, by omega, _, _, _, Rt.refl _ _ _, aLess, by omega, by omega, ⟨_, aRow⟩, ⟨_, aRow⟩, ⟨_, aRow⟩, ⟨_, aRow⟩, ⟨_, aRow⟩, ⟨_, by rw [htk, hre]; exact aRow⟩, fun y hy => Eq.trans aSkip (hk5 y hy)⟩
      · have : k = o.length := by omega
        subst this
        rw [List.take_length] at rq
        repeat' (first | ((with_reducible refine Go.red ?_); conv => whnf) | refine aG ?_ | exact aCn | with_reducible refine Go.and ?_ ?_ | ((with_reducible refine Ask.mk ?_); first | exact aAsk | (exact homl) | exact aAsk2 | (intro h; simp_all [lookCells] <;> fail) | (simp_all [lookCells] <;> fail)) | (apply Go.elem; (· exact aElem)) | refine aH ?_ | ((with_reducible refine Go.bool ?_ ?_) <;> intro hc <;> (try simp only [List.length_map, ne_eq, hcs] at hc) <;> try (exfalso; omega)))
        exact ⟨n4 + 12, _, by rw [List.length_map], by omega, by omega, by rw [List.map_map]; exact aRow, fun y hy => Eq.trans aSkip (hk5 y hy)⟩
end Go.Proofs.YtmonponfppdgfaaDoor
end
section
/- Once: the walk. -/
namespace Go.Proofs.YtmonponfppdgfaaDoor
open Go Go.Abs Go.Proofs
set_option linter.unusedSimpArgs false
set_option linter.unusedVariables false
theorem fit_graphAv (g : Graph) : fitA 0 g.av := by simp [fitA, fitL, Graph.cells, fit_nodes]
theorem fit_unitAv (u : UnitS) : fitA 0 u.av := by simp [fitA, fitL, UnitS.cells, fit_decls, fit_graphs]
theorem once_gpure (u : UnitS) (g : Graph) (hg : g.Wf) (hk : GraphOk u g) (t : Nat) (cls : List ClassV) (hcl : cls.length = u.shared.length) (hcl64 : cls.length ≤ 64) : Pure Tryd.prog 25 [lookX g t cls] (fun r => r = (onceG g cls t).av) := by
  refine pure_of_call ((once_call u g hg hk t cls hcl hcl64 [] 0).mono ?_) (fit_graphAv _)
  rintro r H2 n2 ⟨b, d, rfl, _, _, hb, _⟩
  rw [show Abs.frz H2 6 (.agg [st g.name, i64 g.locals, i64 g.slots, .sl b (onceG g cls t).nodes.length]) = .agg ([st g.name, i64 g.locals, i64 g.slots, .sl b (onceG g cls t).nodes.length].map (Abs.frz H2 5)) from rfl]
  simp only [List.map_cons, List.map_nil]
  rw [frz_fit 5 (by simp [fitA]), frz_fit 5 (by simp [fitA]), frz_fit 5 (by simp [fitA]), frz_sl hb (by simp), frz_same _ (fit_nodes _)]
  rfl
theorem frz_agg {H : Hp} {k : Nat} {cs : List AV} : Abs.frz H (k + 1) (.agg cs) = .agg (cs.map (Abs.frz H k)) := by simp only [frz]
noncomputable def onceTo (u : UnitS) (t : Nat) : List Graph := (List.range t).map fun t => onceG (u.gr t) (classesU u) t
theorem onceTo_next (u : UnitS) (t : Nat) : onceTo u (t + 1) = onceTo u t ++ [onceG (u.gr t) (classesU u) t] := by
  rw [onceTo, List.range_succ, List.map_append]; rfl
theorem onceTo_len (u : UnitS) (t : Nat) : (onceTo u t).length = t := by simp [onceTo]
noncomputable def unitAv (u v : UnitS) : AV := if rightB u = true then .tup [v.av, i64 0] else .tup [(⟨[], [], []⟩ : UnitS).av, i64 60]
theorem Once_bad (u : UnitS) (hu : u.Wf) (hr : ¬ RightU u) : Pure Tryd.prog 7 [u.av] (fun r => r = .tup [.agg [.sc (.slice none 0 0), .sc (.slice none 0 0), .sc (.slice none 0 0)], i64 60]) := by
  have hc := check_pure u hu
  have h60 := checkU_bad hr
  generalize checkU u = c3 at *
  obtain ⟨c1, c2, c3⟩ := c3
  simp only at h60
  subst h60
  refine Go.pureL lf7 rfl ?_
  repeat' (first | ((with_reducible refine Go.red ?_); conv => whnf) | refine aG ?_ | exact aCn | with_reducible refine Go.and ?_ ?_ | ((with_reducible refine Ask.mk ?_); first | exact aAsk | exact aAsk2 | (intro h; simp_all [UnitS.cells] <;> fail) | (simp_all [UnitS.cells] <;> fail)) | (apply Go.elem; (· exact aElem)) | refine aK (hc) ?_ | refine aH ?_ | ((with_reducible refine Go.bool ?_ ?_) <;> intro hc <;> (try simp only [List.length_map, ne_eq, hcs] at hc) <;> try (exfalso; omega)))
  exact rfl
set_option maxRecDepth 4000 in
set_option maxHeartbeats 4000000 in
theorem Once_right (u : UnitS) (hu : u.Wf) (hr : RightU u) : Pure Tryd.prog 7 [u.av] (fun r => r = .tup [(onceU u).av, i64 0]) := by
  have hc := check_pure u hu
  rw [checkU_ok.2 hr] at hc
  have hsh := cloneD_pure u.shared hu.sharedlen
  have hlk := cloneD_pure u.locks hu.lockslen
  have hfew := hr.few
  refine pure_of_call ?_ (by rw [fitA, fitL, fitL, fitL]; exact ⟨fit_unitAv _, by simp [fitA], trivial⟩)
  refine Go.fnL lf7 rfl ?_
  repeat' (first | ((with_reducible refine Go.red ?_); conv => whnf) | refine aG ?_ | exact aCn | with_reducible refine Go.and ?_ ?_ | ((with_reducible refine Ask.mk ?_); first | exact aAsk | exact aAsk2 | (intro h; simp_all [UnitS.cells] <;> fail) | (simp_all [UnitS.cells] <;> fail)) | (apply Go.elem; (· exact aElem)) | refine aK (hc) ?_ | refine aK (hsh) ?_ | refine aK (hlk) ?_ | refine aH ?_ | ((with_reducible refine Go.bool ?_ ?_) <;> intro hc <;> (try simp only [List.length_map, ne_eq, hcs] at hc) <;> try (exfalso; omega)))
  have hg0 : onceTo u 0 = [] := rfl
  refine Go.loopF (fun t : Nat => [(1, .pt 0 1 0 0), (2, .pt 1 1 0 0), (7, .pt 20 1 0 0), (30, i64 u.graphs.length), (31, i64 t)])
    (fun t H n => t ≤ u.graphs.length ∧ 27 ≤ n ∧ (∃ d, getH H 0 = some (.row 25 3 d [u.av])) ∧ (∃ d, getH H 1 = some (.row 25 3 d [zav true [.slice none 0 0, .slice none 0 0, .slice none 0 0]])) ∧ (∃ d, getH H 20 = some (.row 25 3 d [.agg [declsAv u.shared, declsAv u.locks, .sl 26 t]])) ∧ (∃ d, getH H 26 = some (.row 33 4 d ((onceTo u t).map Graph.av)))) (fun t => u.graphs.length - t) 0
    ⟨_, _, _, Rt.wk (Wk.nilCell (b := 20) (e := 33) (sz := 4) (by simp only [List.length_cons, List.length_nil]; omega) (by omega) (te := 25) (tz := 3) (cs := [declsAv u.shared, declsAv u.locks, .sc (.slice none 0 0)]) (j := 2) aRow (by show 2 < 3; omega) rfl), by rw [← List.length_map (f := Graph.av)]; exact aLess, Nat.zero_le _, aNx, ⟨_, aRow⟩, ⟨_, aRow⟩, ⟨_, aRow⟩, ⟨_, aRow⟩⟩ ?_
  rintro t H n ⟨ht, hn, ⟨d0, r0⟩, ⟨d1, r1⟩, ⟨d20, r20⟩, ⟨dg, rg⟩⟩
  have hgl : ((onceTo u t).map Graph.av).length = t := by rw [List.length_map, onceTo_len]
  by_cases htl : t < u.graphs.length
  · have ha := asked_ok u hu hr t htl
    have ho := once_gpure u (u.gr t) (hu.graphs _ (getD_mem' default htl)) (hr.gr htl) t (classesU u) (classesU_len u) (by rw [classesU_len]; omega)
    have hnx : (onceTo u (t + 1)).map Graph.av = (onceTo u t).map Graph.av ++ [(onceG (u.gr t) (classesU u) t).av] := by rw [onceTo_next, List.map_append]; rfl
    repeat' (first | ((with_reducible refine Go.red ?_); conv => whnf) | refine aG ?_ | exact aCn | with_reducible refine Go.and ?_ ?_ | ((with_reducible refine Ask.mk ?_); first | exact aAsk | (exact hgl) | exact aAsk2 | (intro h; simp_all [UnitS.cells] <;> fail) | (simp_all [UnitS.cells] <;> fail)) | (apply Go.elem; (· exact aElem)) | refine aK (ha) ?_ | refine aK (ho) ?_ | refine aH ?_ | ((with_reducible refine Go.bool ?_ ?_) <;> intro hc <;> (try simp only [List.length_map, ne_eq, hcs] at hc) <;> try (exfalso; omega)))
    exact ⟨t + 1, by omega, _, _, _, Rt.refl _ _ _, aLess, by omega, by omega, ⟨_, aRow⟩, ⟨_, aRow⟩, ⟨_, aRow⟩, ⟨_, by rw [hnx]; exact aRow⟩⟩
  · have : t = u.graphs.length := by omega
    subst this
    repeat' (first | ((with_reducible refine Go.red ?_); conv => whnf) | refine aG ?_ | exact aCn | with_reducible refine Go.and ?_ ?_ | ((with_reducible refine Ask.mk ?_); first | exact aAsk | (exact hgl) | exact aAsk2 | (intro h; simp_all [UnitS.cells] <;> fail) | (simp_all [UnitS.cells] <;> fail)) | (apply Go.elem; (· exact aElem)) | refine aH ?_ | ((with_reducible refine Go.bool ?_ ?_) <;> intro hc <;> (try simp only [List.length_map, ne_eq, hcs] at hc) <;> try (exfalso; omega)))
    refine ⟨frz_tup2.trans ?_⟩
    rw [frz_sc 5 (by simp [fitA])]
    refine congrArg (fun z => AV.tup [z, i64 0]) ?_
    rw [frz_agg]
    simp only [List.map_cons, List.map_nil]
    rw [frz_fit 4 (by rw [fitA]; exact fit_decls _), frz_fit 4 (by rw [fitA]; exact fit_decls _), frz_sl (e := 33) (sz := 4) (d := dg) (es := (onceTo u u.graphs.length).map Graph.av) aRow hgl, frz_same _ (fit_graphs _)]
    rfl
theorem nil_unit {P : Program} {f : FuncId} {args : List AV} {n : Int} (h : Pure P f args (fun r => r = .tup [.agg [.sc (.slice none 0 0), .sc (.slice none 0 0), .sc (.slice none 0 0)], i64 n])) : Pure P f args (fun r => r = .tup [(⟨[], [], []⟩ : UnitS).av, i64 n]) := by
  refine pure_le (u := .tup [.agg [.sc (.slice none 0 0), .sc (.slice none 0 0), .sc (.slice none 0 0)], i64 n]) (h.mono fun r hr => .inl hr) (by rw [fitA, fitL, fitL, fitL]; exact ⟨fit_unitAv _, by simp [fitA], trivial⟩) fun c => ?_
  refine Abs.AVle.tup (.cons (Abs.AVle.agg (.cons ?_ (.cons ?_ (.cons ?_ .nil)))) (.cons (fun _ h => h) .nil))
  · exact Abs.AVle.nilIm c c 3 .any
  · exact Abs.AVle.nilIm c c 3 .any
  · exact Abs.AVle.nilIm c c 4 .any
theorem Once_pure (u : UnitS) (hu : u.Wf) : Pure Tryd.prog 7 [u.av] (fun r => r = unitAv u (onceU u)) := by
  unfold unitAv
  by_cases hr : RightU u
  · rw [if_pos (rightB_iff.2 hr)]; exact Once_right u hu hr
  · rw [if_neg (mt rightB_iff.1 hr)]; exact nil_unit (Once_bad u hu hr)
theorem Sweep_bad (u : UnitS) (hu : u.Wf) (hr : ¬ RightU u) : Pure Tryd.prog 8 [u.av] (fun r => r = .tup [(⟨[], [], []⟩ : UnitS).av, i64 60]) := by
  have ho := Once_pure u hu
  unfold unitAv at ho
  rw [if_neg (mt rightB_iff.1 hr)] at ho
  refine Go.pureL lf8 rfl ?_
  repeat' (first | ((with_reducible refine Go.red ?_); conv => whnf) | refine aG ?_ | exact aCn | with_reducible refine Go.and ?_ ?_ | ((with_reducible refine Ask.mk ?_); first | exact aAsk | exact aAsk2 | (intro h; simp_all [UnitS.cells] <;> fail) | (simp_all [UnitS.cells] <;> fail)) | (apply Go.elem; (· exact aElem)) | refine aK (ho) ?_ | refine aH ?_ | ((with_reducible refine Go.bool ?_ ?_) <;> intro hc <;> (try simp only [List.length_map, ne_eq, hcs] at hc) <;> try (exfalso; omega)))
  refine Go.head ?_
  repeat' (first | ((with_reducible refine Go.red ?_); conv => whnf) | refine aG ?_ | exact aCn | with_reducible refine Go.and ?_ ?_ | ((with_reducible refine Ask.mk ?_); first | exact aAsk | exact aAsk2 | (intro h; simp_all [UnitS.cells] <;> fail) | (simp_all [UnitS.cells] <;> fail)) | (apply Go.elem; (· exact aElem)) | refine aH ?_ | ((with_reducible refine Go.bool ?_ ?_) <;> intro hc <;> (try simp only [List.length_map, ne_eq, hcs] at hc) <;> try (exfalso; omega)))
  exact rfl
set_option maxRecDepth 4000 in
set_option maxHeartbeats 4000000 in
theorem Sweep_right (u : UnitS) (hu : u.Wf) (hr : RightU u) : Pure Tryd.prog 8 [u.av] (fun r => r = .tup [(sweepU u).av, i64 0]) := by
  have ho := Once_right u hu hr
  have hfit := fun v => fit_unitAv v
  refine Go.pureL lf8 rfl ?_
  repeat' (first | ((with_reducible refine Go.red ?_); conv => whnf) | refine aG ?_ | exact aCn | with_reducible refine Go.and ?_ ?_ | ((with_reducible refine Ask.mk ?_); first | exact aAsk | exact aAsk2 | (intro h; simp_all [UnitS.cells] <;> fail) | (simp_all [UnitS.cells] <;> fail)) | (apply Go.elem; (· exact aElem)) | refine aK (ho) ?_ | refine aH ?_ | ((with_reducible refine Go.bool ?_ ?_) <;> intro hc <;> (try simp only [List.length_map, ne_eq, hcs] at hc) <;> try (exfalso; omega)))
  refine Go.loop (fun v : UnitS => [(2, .pt 1 1 0 0), (4, .pt 7 1 0 0), (5, i64 0)])
    (fun v H n => 10 ≤ n ∧ RightU v ∧ v.Wf ∧ sweepN (sizeU v) v = sweepU u ∧ (∃ d, getH H 1 = some (.row 25 3 d [zav true [.slice none 0 0, .slice none 0 0, .slice none 0 0]])) ∧ (∃ d, getH H 7 = some (.row 25 3 d [v.av]))) (fun v => sizeU v) (onceU u) aLess ⟨aNx, once_right hr, once_wf hu hr, (sweepU_eq hr).symm, ⟨_, aRow⟩, ⟨_, aRow⟩⟩ ?_
  rintro v H n ⟨hn, hvr, hvw, hsw, ⟨d1, r1⟩, ⟨d8, r8⟩⟩
  have ho2 := Once_right v hvw hvr
  have hs := cfgSame_pure (onceU v) v (once_wf hvw hvr) hvw
  by_cases e : onceU v = v
  · rw [decide_eq_true e] at hs
    rw [sweep_stop hvr e] at hsw
    subst hsw
    repeat' (first | ((with_reducible refine Go.red ?_); conv => whnf) | refine aG ?_ | exact aCn | with_reducible refine Go.and ?_ ?_ | ((with_reducible refine Ask.mk ?_); first | exact aAsk | exact aAsk2 | (intro h; simp_all [UnitS.cells] <;> fail) | (simp_all [UnitS.cells] <;> fail)) | (apply Go.elem; (· exact aElem)) | refine aK (ho2) ?_ | refine aK (hs) ?_ | refine aH ?_ | ((with_reducible refine Go.bool ?_ ?_) <;> intro hc <;> (try simp only [List.length_map, ne_eq, hcs] at hc) <;> try (exfalso; omega)))
    exact congrArg (fun z => AV.tup [AV.agg z, i64 0]) (frz_same _ (fit_unit 0 _))
  · rw [decide_eq_false e] at hs
    obtain ⟨h1, h2⟩ := sweep_on hvr e
    repeat' (first | ((with_reducible refine Go.red ?_); conv => whnf) | refine aG ?_ | exact aCn | with_reducible refine Go.and ?_ ?_ | ((with_reducible refine Ask.mk ?_); first | exact aAsk | exact aAsk2 | (intro h; simp_all [UnitS.cells] <;> fail) | (simp_all [UnitS.cells] <;> fail)) | (apply Go.elem; (· exact aElem)) | refine aK (ho2) ?_ | refine aK (hs) ?_ | refine aH ?_ | ((with_reducible refine Go.bool ?_ ?_) <;> intro hc <;> (try simp only [List.length_map, ne_eq, hcs] at hc) <;> try (exfalso; omega)))
    exact ⟨onceU v, h2, aLess, by omega, once_right hvr, once_wf hvw hvr, h1.symm.trans hsw, ⟨_, aRow⟩, ⟨_, aRow⟩⟩
end Go.Proofs.YtmonponfppdgfaaDoor
end
section
/- Units in rows, and copies of units: the walk. -/
namespace Go.Proofs.YtmonponfppdgfaaDoor
open Go Go.Abs Go.Proofs
set_option linter.unusedSimpArgs false
set_option linter.unusedVariables false
abbrev gCell (x : Nat) (g : Graph) : AV := .agg [st g.name, i64 g.locals, i64 g.slots, .sl x g.nodes.length]
def gRow (ids : List Nat) (gs : List Graph) : List AV := List.zipWith gCell ids gs
abbrev unitX (sh lk gr : Nat) (u : UnitS) : AV := .agg [.sl sh u.shared.length, .sl lk u.locks.length, .sl gr u.graphs.length]
theorem gRow_len {ids : List Nat} {gs : List Graph} (h : ids.length = gs.length) : (gRow ids gs).length = gs.length := by simp [gRow, h]
theorem gRow_get {ids : List Nat} {gs : List Graph} (h : ids.length = gs.length) {t : Nat} (ht : t < gs.length) (d : AV) : (gRow ids gs).getD t d = gCell (ids.getD t 0) (gs.getD t default) := by
  have h1 : t < (gRow ids gs).length := by rw [gRow_len h]; exact ht
  rw [gd h1, gd (by omega), gd ht]
  simp [gRow]
theorem gRow_app {ids : List Nat} {gs : List Graph} (h : ids.length = gs.length) (x : Nat) (g : Graph) : gRow (ids ++ [x]) (gs ++ [g]) = gRow ids gs ++ [gCell x g] := by
  unfold gRow
  rw [List.zipWith_append h]; rfl
structure UAt (sh lk gr : Nat) (ids : List Nat) (u : UnitS) (H : Hp) : Prop where
  nodup : (sh :: lk :: gr :: ids).Nodup
  len : ids.length = u.graphs.length
  sh : ∃ d, getH H sh = some (.row 65 3 d (u.shared.map Decl.av))
  lk : ∃ d, getH H lk = some (.row 65 3 d (u.locks.map Decl.av))
  gr : ∃ d, getH H gr = some (.row 33 4 d (gRow ids u.graphs))
  nds : ∀ t, t < u.graphs.length → ∃ d, getH H (ids.getD t 0) = some (.row 46 13 d ((u.gr t).nodes.map Node.av))
theorem UAt.keep {sh lk gr : Nat} {ids : List Nat} {u : UnitS} {H H' : Hp} (h : UAt sh lk gr ids u H) (hk : ∀ x ∈ sh :: lk :: gr :: ids, getH H' x = getH H x) : UAt sh lk gr ids u H' := by
  refine ⟨h.nodup, h.len, ?_, ?_, ?_, fun t ht => ?_⟩
  · rw [hk sh (by simp)]; exact h.sh
  · rw [hk lk (by simp)]; exact h.lk
  · rw [hk gr (by simp)]; exact h.gr
  · rw [hk _ (List.mem_cons_of_mem _ (List.mem_cons_of_mem _ (List.mem_cons_of_mem _ (getD_mem (by rw [h.len]; exact ht)))))]; exact h.nds t ht
theorem UAt.frz {sh lk gr : Nat} {ids : List Nat} {u : UnitS} {H : Hp} (h : UAt sh lk gr ids u H) (k : Nat) : Abs.frz H (k + 4) (unitX sh lk gr u) = u.av := by
  obtain ⟨d1, h1⟩ := h.sh
  obtain ⟨d2, h2⟩ := h.lk
  obtain ⟨d3, h3⟩ := h.gr
  rw [frz_agg]
  simp only [List.map_cons, List.map_nil]
  rw [frz_sl h1 (by simp), frz_sl h2 (by simp), frz_sl h3 (gRow_len h.len), frz_same _ (fit_decls _), frz_same _ (fit_decls _)]
  have : (gRow ids u.graphs).map (Abs.frz H (k + 2)) = u.graphs.map Graph.av := by
    apply List.ext_getElem (by simp [gRow, h.len])
    intro t q1 q2
    have ht : t < u.graphs.length := by simpa using q2
    obtain ⟨d, hd⟩ := h.nds t ht
    have e1 : (gRow ids u.graphs)[t]'(by simpa using q1) = gCell (ids.getD t 0) (u.gr t) := by rw [← gRow_get h.len ht .any, gd]
    rw [List.getElem_map, e1, List.getElem_map, frz_agg]
    simp only [List.map_cons, List.map_nil]
    rw [frz_fit _ (by simp [fitA]), frz_fit _ (by simp [fitA]), frz_fit _ (by simp [fitA]), frz_sl hd (by simp), frz_same _ (fit_nodes _)]
    have : u.gr t = u.graphs[t] := by simp [UnitS.gr, List.getD, ht]
    rw [this]; rfl
  rw [this]; rfl
set_option maxRecDepth 4000 in
theorem copyG_call (g : Graph) (hg : g.Wf) (h96 : g.nodes.length * 96 ≤ 140737488351232) : CallN Tryd.prog 31 [g.av] [] 0 (fun r H n => ∃ b d, r = .agg ([st g.name, i64 g.locals, i64 g.slots] ++ [.sl b (g.nodes.map Node.av).length]) ∧ getH H b = some (.row 46 13 d (g.nodes.map Node.av))) := by
  have hl := hg.len
  refine Go.fnL lf31 rfl ?_
  repeat' (first | ((with_reducible refine Go.red ?_); conv => whnf) | refine aG ?_ | exact aCn | with_reducible refine Go.and ?_ ?_ | ((with_reducible refine Ask.mk ?_); first | exact aAsk | (refine app_le (m := g.nodes.length) (by simp) ?_; omega) | (simp only [List.length_map]; omega) | exact aAsk2 | (intro h; simp_all [Graph.cells] <;> fail) | (simp_all [Graph.cells] <;> fail)) | (apply Go.elem; (· exact aElem)) | refine aH ?_ | ((with_reducible refine Go.bool ?_ ?_) <;> intro hc <;> (try simp only [List.length_map, ne_eq, hcs] at hc) <;> try (exfalso; omega)))
  exact ⟨⟨2, _, by simp [Graph.cells], aRow⟩⟩
set_option maxRecDepth 4000 in
set_option maxHeartbeats 4000000 in
theorem copy_call (u : UnitS) (hu : u.Wf) (h96 : ∀ g ∈ u.graphs, g.nodes.length * 96 ≤ 140737488351232) (H0 : Hp) (nx : Nat) : CallN Tryd.prog 14 [u.av] H0 nx (fun r H n => ∃ sh lk gr ids, r = unitX sh lk gr u ∧ UAt sh lk gr ids u H ∧ (∀ x ∈ sh :: lk :: gr :: ids, nx ≤ x ∧ x < n) ∧ nx ≤ n ∧ ∀ y, y < nx → getH H y = getH H0 y) := by
  have hs := hu.sharedlen
  have hk := hu.lockslen
  have hgl := hu.graphslen
  refine Go.fnL lf14 rfl ?_
  repeat' (first | ((with_reducible refine Go.red ?_); conv => whnf) | refine aG ?_ | exact aCn | with_reducible refine Go.and ?_ ?_ | ((with_reducible refine Ask.mk ?_); first | exact aAsk | (refine app_le rfl ?_; simp only [List.length_map]; omega) | exact aAsk2 | (intro h; simp_all [UnitS.cells] <;> fail) | (simp_all [UnitS.cells] <;> fail)) | (apply Go.elem; (· exact aElem)) | refine aH ?_ | ((with_reducible refine Go.bool ?_ ?_) <;> intro hc <;> (try simp only [List.length_map, ne_eq, hcs] at hc) <;> try (exfalso; omega)))
  have z1 : 0 + (u.shared.map Decl.av).length = u.shared.length := by simp
  have z2 : 0 + (u.locks.map Decl.av).length = u.locks.length := by simp
  try rw [z1]
  try rw [z2]
  refine Go.loopF (fun σ : Nat × List Nat => [(1, .pt nx 1 0 0), (2, .pt (nx + 1) 1 0 0), (3, .pt (nx + 11) 1 0 0), (4, i64 σ.1)])
    (fun σ H n => σ.1 ≤ u.graphs.length ∧ nx + 15 ≤ n ∧ σ.2.length = σ.1 ∧ σ.2.Nodup ∧ (∀ x ∈ σ.2, nx + 15 ≤ x ∧ x < n) ∧ (∃ d, getH H nx = some (.row 25 3 d [u.av])) ∧ (∃ d, getH H (nx + 1) = some (.row 25 3 d [zav true [.slice none 0 0, .slice none 0 0, .slice none 0 0]])) ∧ (∃ d, getH H (nx + 11) = some (.row 25 3 d [.agg [.sl (nx + 2) u.shared.length, .sl (nx + 6) u.locks.length, .sl (nx + 14) σ.1]])) ∧ (∃ d, getH H (nx + 2) = some (.row 65 3 d (u.shared.map Decl.av))) ∧ (∃ d, getH H (nx + 6) = some (.row 65 3 d (u.locks.map Decl.av))) ∧ (∃ d, getH H (nx + 14) = some (.row 33 4 d (gRow σ.2 (u.graphs.take σ.1)))) ∧ (∀ t, t < σ.1 → ∃ d, getH H (σ.2.getD t 0) = some (.row 46 13 d ((u.gr t).nodes.map Node.av))) ∧ ∀ y, y < nx → getH H y = getH H0 y) (fun σ => u.graphs.length - σ.1) (0, [])
    ⟨_, _, _, Rt.wk (Wk.nilCell (b := nx + 11) (e := 33) (sz := 4) (by simp only [List.length_cons, List.length_nil]; omega) (by omega) (te := 25) (tz := 3) (cs := [.sl (nx + 2) u.shared.length, .sl (nx + 6) u.locks.length, .sc (.slice none 0 0)]) (j := 2) aRow (by show 2 < 3; omega) rfl), aLess, Nat.zero_le _, aNx, rfl, List.nodup_nil, fun x hx => by simp at hx, ⟨_, aRow⟩, ⟨_, aRow⟩, ⟨_, aRow⟩, ⟨_, aRow⟩, ⟨_, aRow⟩, ⟨_, aRow⟩, fun t ht => absurd ht (Nat.not_lt_zero _), fun y hy => aSkip⟩ ?_
  rintro ⟨t, ids⟩ H n ⟨ht, hn, hil, hnd, hin, ⟨d0, r0⟩, ⟨d1, r1⟩, ⟨d11, r11⟩, ⟨d2, r2⟩, ⟨d6, r6⟩, ⟨d14, r14⟩, hnds, hkp⟩
  dsimp only at ht hil hnd hin r11 r14 hnds ⊢
  have htk : (u.graphs.take t).length = t := by rw [List.length_take]; omega
  have hgl : (gRow ids (u.graphs.take t)).length = t := by rw [gRow_len (by rw [hil, htk]), htk]
  by_cases htl : t < u.graphs.length
  · have eg := fun d => gr_at (l := u.graphs) htl d
    have hgm := getD_mem' (default : Graph) htl
    have hcg := copyG_call (u.graphs.getD t default) (hu.graphs _ hgm) (h96 _ hgm)
    have hnx : gRow (ids ++ [n + 12]) (u.graphs.take (t + 1)) = gRow ids (u.graphs.take t) ++ [gCell (n + 12) (u.graphs.getD t default)] := by
      rw [List.take_succ_eq_append_getElem htl, gRow_app (by rw [hil, htk]), show u.graphs.getD t default = u.graphs[t] by simp [List.getD, htl]]
    have hgr : u.gr t = u.graphs.getD t default := rfl
    generalize u.graphs.getD t default = g at *
    have hfz : ∀ H1 : Hp, [g.av].map (Abs.frz H1 6) = [g.av] := fun H1 => by rw [List.map_cons, List.map_nil, frz_fit 6 (fit_graphAv g)]
    have hft : fitL 0 [g.av] := ⟨fit_graphAv g, trivial⟩
    have hflat : ∀ i, i < (g.nodes.map Node.av).length → flatR ((g.nodes.map Node.av).getD i .any) := fun i hi => by
      rw [getD_av Node.av _ _ _ (by simpa using hi)]
      simp [flatR, flatL, Node.cells]
    repeat' (first | ((with_reducible refine Go.red ?_); conv => whnf) | refine aG ?_ | exact aCn | with_reducible refine Go.and ?_ ?_ | ((with_reducible refine Ask.mk ?_); first | exact aAsk | (exact hgl) | (refine app_le rfl ?_; simp only [List.length_map]; omega) | exact aAsk2 | (intro h; simp_all [UnitS.cells] <;> fail) | (simp_all [UnitS.cells] <;> fail)) | (apply Go.elem; (· (first | exact eg _ | exact aElem))) | (refine Go.freshAE [] .any (cs := [st g.name, i64 g.locals, i64 g.slots]) trivial hcg hflat (fun H1 _ => hfz H1) hft ?_) | refine aH ?_ | ((with_reducible refine Go.bool ?_ ?_) <;> intro hc <;> (try simp only [List.length_map, ne_eq, hcs] at hc) <;> try (exfalso; omega)))
    refine ⟨(t + 1, ids ++ [n + 12]), by dsimp only; omega, _, _, _, Rt.refl _ _ _, aLess, by dsimp only; omega, by omega, by simp [hil], ?_, ?_, ⟨_, aRow⟩, ⟨_, aRow⟩, ⟨_, aRow⟩, ⟨_, aRow⟩, ⟨_, aRow⟩, ⟨_, by dsimp only; rw [hnx, List.length_map]; exact aRow⟩, ?_, fun y hy => Eq.trans aSkip (hkp y hy)⟩
    · refine List.nodup_append.2 ⟨hnd, by simp, fun a ha b hb => ?_⟩
      simp only [List.mem_cons, List.not_mem_nil, or_false] at hb
      have := hin _ ha; omega
    · intro x hx
      rcases List.mem_append.1 hx with hx | hx
      · have := hin _ hx; exact ⟨this.1, Nat.lt_of_lt_of_le this.2 aNx⟩
      · simp only [List.mem_cons, List.not_mem_nil, or_false] at hx
        subst hx; exact ⟨by omega, aNx⟩
    · intro q hq
      have hq : q < t + 1 := hq
      by_cases e : q = t
      · subst e
        have e2 : (ids ++ [n + 12]).getD q 0 = n + 12 := by rw [List.getD, List.getElem?_append_right (by omega), hil, Nat.sub_self]; rfl
        dsimp only
        rw [e2, hgr]; exact ⟨_, aRow⟩
      · obtain ⟨d, hd⟩ := hnds q (by omega)
        have e2 : (ids ++ [n + 12]).getD q 0 = ids.getD q 0 := by simp [List.getD, List.getElem?_append, show q < ids.length by omega]
        have := hin _ (getD_mem (l := ids) (q := q) (by omega))
        dsimp only
        rw [e2]; exact ⟨d, Eq.trans aSkip hd⟩
  · have : t = u.graphs.length := by omega
    subst this
    rw [List.take_length] at r14
    repeat' (first | ((with_reducible refine Go.red ?_); conv => whnf) | refine aG ?_ | exact aCn | with_reducible refine Go.and ?_ ?_ | ((with_reducible refine Ask.mk ?_); first | exact aAsk | exact aAsk2 | (intro h; simp_all [UnitS.cells] <;> fail) | (simp_all [UnitS.cells] <;> fail)) | (apply Go.elem; (· exact aElem)) | refine aH ?_ | ((with_reducible refine Go.bool ?_ ?_) <;> intro hc <;> (try simp only [List.length_map, ne_eq, hcs] at hc) <;> try (exfalso; omega)))
    refine ⟨⟨nx + 2, nx + 6, nx + 14, ids, rfl, ⟨?_, hil, ⟨_, aRow⟩, ⟨_, aRow⟩, ⟨_, aRow⟩, fun t ht => ?_⟩, ?_, aNx, fun y hy => Eq.trans aSkip (hkp y hy)⟩⟩
    · refine List.nodup_cons.2 ⟨?_, List.nodup_cons.2 ⟨?_, List.nodup_cons.2 ⟨fun h => ?_, hnd⟩⟩⟩
      · simp only [List.mem_cons, not_or]
        exact ⟨by omega, by omega, fun h => by have := hin _ h; omega⟩
      · simp only [List.mem_cons, not_or]
        exact ⟨by omega, fun h => by have := hin _ h; omega⟩
      · have := hin _ h; omega
    · obtain ⟨d, hd⟩ := hnds t ht
      have := hin _ (getD_mem (l := ids) (q := t) (by omega))
      exact ⟨d, Eq.trans aSkip hd⟩
    · intro x hx
      simp only [List.mem_cons] at hx
      rcases hx with rfl | rfl | rfl | hx
      · exact ⟨by omega, by omega⟩
      · exact ⟨by omega, by omega⟩
      · exact ⟨by omega, by omega⟩
      · have := hin _ hx; exact ⟨by omega, by omega⟩
def someH (S : List Nat) (H : Hp) : Hp := H.filter fun q => decide (q.1 ∈ S)
theorem getH_some {S : List Nat} {b : Nat} (hb : b ∈ S) : ∀ H : Hp, getH (someH S H) b = getH H b
  | [] => rfl
  | (d, v) :: H => by
    unfold someH
    by_cases hd : d ∈ S
    · rw [List.filter_cons_of_pos (by simpa using hd)]
      by_cases e : b = d
      · subst e; rw [getH_here, getH_here]
      · rw [getH_skipEq e, getH_skipEq e]; exact getH_some hb H
    · rw [List.filter_cons_of_neg (by simpa using hd), getH_skipEq (fun e => hd (by rw [← e]; exact hb))]
      exact getH_some hb H
theorem getH_some_in {S : List Nat} {b : Nat} {q : Blk} {H : Hp} (h : getH (someH S H) b = some q) : b ∈ S := by
  have := getH_in h
  unfold someH at this
  obtain ⟨p, hp, rfl⟩ := List.mem_map.1 this
  simpa using (List.mem_filter.1 hp).2
theorem someH_sub {S : List Nat} {H : Hp} (b : Nat) (q : Blk) (h : getH (someH S H) b = some q) : getH H b = some q := by rw [← getH_some (getH_some_in h)]; exact h
theorem goneS_out {S : List Nat} {H H2 : Hp} {b : Nat} (hb : b ∉ S) : getH (goneH (someH S H) H2) b = getH H2 b := goneH_out fun h => by
  unfold someH at h
  obtain ⟨p, hp, rfl⟩ := List.mem_map.1 h
  exact hb (by simpa using (List.mem_filter.1 hp).2)
theorem ice_agg {G : Hp} {k : Nat} {cs : List AV} : Abs.ice G (k + 1) (.agg cs) = .agg (cs.map (Abs.ice G k)) := rfl
theorem ice_node (G : Hp) (k : Nat) (n : Node) : Abs.ice G k n.av = n.av := by
  cases k with
  | zero => rfl
  | succ k => rw [ice_agg]; simp only [Node.cells, List.map_cons, List.map_nil, ice_sc]; rfl
theorem ice_decl (G : Hp) (k : Nat) (n : Decl) : Abs.ice G k n.av = n.av := by
  cases k with
  | zero => rfl
  | succ k => rw [ice_agg]; simp only [Decl.cells, List.map_cons, List.map_nil, ice_sc]; rfl
theorem UAt.ice {sh lk gr : Nat} {ids : List Nat} {u : UnitS} {H : Hp} (h : UAt sh lk gr ids u H) (k : Nat) : Abs.ice (someH (sh :: lk :: gr :: ids) H) (k + 4) (unitX sh lk gr u) = u.av := by
  obtain ⟨d1, h1⟩ := h.sh
  obtain ⟨d2, h2⟩ := h.lk
  obtain ⟨d3, h3⟩ := h.gr
  have g1 := (getH_some (S := sh :: lk :: gr :: ids) (b := sh) (by simp) H).trans h1
  have g2 := (getH_some (S := sh :: lk :: gr :: ids) (b := lk) (by simp) H).trans h2
  have g3 := (getH_some (S := sh :: lk :: gr :: ids) (b := gr) (by simp) H).trans h3
  rw [ice_agg]
  simp only [List.map_cons, List.map_nil]
  rw [ice_sl g1 (by simp), ice_sl g2 (by simp), ice_sl g3 (gRow_len h.len)]
  have e1 : ∀ (l : List Decl) k, (l.map Decl.av).map (Abs.ice (someH (sh :: lk :: gr :: ids) H) k) = l.map Decl.av := fun l k => by rw [List.map_map]; exact List.map_congr_left fun d _ => ice_decl _ _ d
  have e2 : ∀ (l : List Node) k, (l.map Node.av).map (Abs.ice (someH (sh :: lk :: gr :: ids) H) k) = l.map Node.av := fun l k => by rw [List.map_map]; exact List.map_congr_left fun d _ => ice_node _ _ d
  rw [e1, e1]
  have : (gRow ids u.graphs).map (Abs.ice (someH (sh :: lk :: gr :: ids) H) (k + 2)) = u.graphs.map Graph.av := by
    apply List.ext_getElem (by simp [gRow, h.len])
    intro t q1 q2
    have ht : t < u.graphs.length := by simpa using q2
    obtain ⟨d, hd⟩ := h.nds t ht
    have g4 := (getH_some (S := sh :: lk :: gr :: ids) (b := ids.getD t 0) (List.mem_cons_of_mem _ (List.mem_cons_of_mem _ (List.mem_cons_of_mem _ (getD_mem (by rw [h.len]; exact ht))))) H).trans hd
    have e1 : (gRow ids u.graphs)[t]'(by simpa using q1) = gCell (ids.getD t 0) (u.gr t) := by rw [← gRow_get h.len ht .any, gd]
    rw [List.getElem_map, e1, List.getElem_map, ice_agg]
    simp only [List.map_cons, List.map_nil]
    rw [ice_sc, ice_sc, ice_sc, ice_sl g4 (by simp), e2]
    have : u.gr t = u.graphs[t] := by simp [UnitS.gr, List.getD, ht]
    rw [this]; rfl
  rw [this]; rfl
end Go.Proofs.YtmonponfppdgfaaDoor
end
