/- A new machine of an object that lies in rows of its own. -/
import Derived.Test.YtliabecchkolgaaVcopy
import Derived.Test.YtliabecchkolgaaVp
namespace Go.Proofs.Ytliabecchkolgaa
open Go Go.Abs Go.Proofs
set_option linter.unusedSimpArgs false
set_option linter.unusedVariables false
theorem AVle.imS {w0 : World} {c c2 : Cx} (hS : Sim w0 c) {b : Nat} {e : TypeId} {sz : Nat} {d : AV} {es es2 : List AV} (d2 : AV) (hw : c2.w = c.w) (hH : c.H b = some (.row e sz d es)) (hM : ∀ blk o z, c.ρ b = some (blk, o, z) → ¬ c2.M blk) (h : AVles c c2 es es2) : AVle c c2 (.sl b es.length) (.im sz d2 es2) := by
  have hl := h.length
  intro v hv
  rw [VR] at hv
  obtain ⟨_, a, cap, rfl, hr⟩ := hv
  obtain ⟨_, hr⟩ := hr _ _ _ _ hH
  obtain ⟨_, hz, hrow⟩ := hS.row b _ _ _ _ hH
  rw [VR]
  rcases hr rfl with ⟨hρ, rfl, rfl⟩ | ⟨blk, o, z, hρ, rfl, hc1, _, _⟩
  · rcases hrow with ⟨_, rfl⟩ | ⟨_, _, _, hρ', _⟩
    · have : es2 = [] := List.eq_nil_of_length_eq_zero (by simpa using hl.symm)
      subst this
      exact ⟨none, 0, rfl, by simp, .inl rfl⟩
    · rw [hρ] at hρ'; cases hρ'
  · rcases hrow with ⟨hρ', _⟩ | ⟨blk1, o1, z1, hρ1, _, _, _, hrow⟩
    · rw [hρ] at hρ'; cases hρ'
    · rw [hρ] at hρ1; cases hρ1
      exact ⟨_, cap, by rw [← hl], by rw [← hl]; exact hc1, .inr ⟨blk, o, rfl, hz, hM _ _ _ hρ, h.row hw hrow⟩⟩
theorem pure_args {P : Program} {f : FuncId} {a b : AV} {R : AV → Prop} (h : Pure P f [b] R) (hle : ∀ c, AVle c c a b) : Pure P f [a] R :=
  ⟨h.1, fun M w vs hM hv => h.2 M w vs hM (AVles.vrs (.cons (hle _) .nil) hv)⟩
/-- An object whose lists are rows. -/
structure ORows (o : Obj) (mb : Nat) (v : AV) (H : Hp) (nx : Nat) : Prop where
  mlt : mb < nx
  mem : ∃ d, getH H mb = some (.row 2 1 d (o.mem.map i64))
  cores : (o.cores = [] ∧ v = .sc (.slice none 0 0)) ∨ ∃ cb B d es, v = .sl cb o.cores.length ∧ 0 < o.cores.length ∧ cb < nx ∧ cb ≠ mb ∧ getH H cb = some (.row 81 2 d es) ∧ es = List.zipWith coreRow o.cores B ∧ CPart o H B o.cores.length 0 nx ∧ cb ∉ B ∧ mb ∉ B
abbrev rowsAv (o : Obj) (mb : Nat) (v : AV) : AV := .agg [.sl mb o.mem.length, i64 o.shared, i64 o.locks, i64 o.buffer, v]
theorem OCopied.rows {o : Obj} {H H' : Hp} {nx n : Nat} {r : AV} (h : OCopied o H nx r H' n) : ∃ mb v, r = rowsAv o mb v ∧ ORows o mb v H' n ∧ nx ≤ n ∧ ∀ b, b < nx → getH H' b = getH H b := by
  obtain ⟨mb, v, rfl, h1, h2, h3, h4, h5⟩ := h
  refine ⟨mb, v, rfl, ⟨h1.2, h3, ?_⟩, h2, h4⟩
  rcases h5 with h5 | ⟨cb, B, d, es, g1, g2, g3, g4, g5, g6, g7, g8, g9⟩
  · exact .inl h5
  · exact .inr ⟨cb, B, d, es, g1, g2, g3.2, g4, g5, g6, ⟨g7.len, fun j hj => ⟨Nat.zero_le _, (g7.new j hj).2.1, (g7.new j hj).2.2⟩, g7.apart⟩, g8, g9⟩
theorem ORows.keep {o : Obj} {mb : Nat} {v : AV} {H H' : Hp} {nx n : Nat} (h : ORows o mb v H nx) (hf : ∀ b, b < nx → getH H' b = getH H b) (hn : nx ≤ n) : ORows o mb v H' n := by
  obtain ⟨h1, ⟨d, h2⟩, h3⟩ := h
  refine ⟨by omega, ⟨d, (hf _ h1).trans h2⟩, ?_⟩
  rcases h3 with h3 | ⟨cb, B, d, es, g1, g2, g3, g4, g5, g6, g7, g8, g9⟩
  · exact .inl h3
  · refine .inr ⟨cb, B, d, es, g1, g2, by omega, g4, (hf _ g3).trans g5, g6, ⟨g7.len, fun j hj => ?_, g7.apart⟩, g8, g9⟩
    obtain ⟨k1, k2, d, k3⟩ := g7.new j hj
    exact ⟨k1, by omega, d, (hf _ k2).trans k3⟩
theorem ORows.frz {o : Obj} {mb : Nat} {v : AV} {H : Hp} {nx : Nat} (k : Nat) (h : ORows o mb v H nx) : Abs.frz H (k + 6) (rowsAv o mb v) = if o.cores = [] then .agg [.im 1 .any (o.mem.map i64), i64 o.shared, i64 o.locks, i64 o.buffer, .sc (.slice none 0 0)] else o.av := by
  obtain ⟨_, ⟨d1, h1⟩, h2⟩ := h
  rcases h2 with ⟨h3, rfl⟩ | ⟨cb, B, d, es, rfl, h0, _, _, h4, hes, hB, _, _⟩
  · rw [if_pos h3]
    simp only [Abs.frz, List.map_cons, List.map_nil, frz_sc, h1]
    rw [if_pos (by simp), frz_same (k + 4) (by simp [fitL_map, fitA])]
  · rw [if_neg (fun h => by rw [h] at h0; exact absurd h0 (by simp))]
    have hl : es.length = o.cores.length := by rw [hes]; simp [hB.len]
    show AV.agg [Abs.frz H (k + 5) (.sl mb _), Abs.frz H (k + 5) (i64 _), Abs.frz H (k + 5) (i64 _), Abs.frz H (k + 5) (i64 _), Abs.frz H (k + 5) (.sl cb _)] = _
    rw [frz_sl h1 (by simp), frz_sl h4 hl, hes, frz_rows (k + 1) hB, frz_same (k + 4) (by simp [fitL_map, fitA]), frz_sc, frz_sc, frz_sc]
    rfl
theorem check_rows {o : Obj} (ho : o.Wf) {mb : Nat} {v : AV} {H : Hp} {nx : Nat} (h : ORows o mb v H nx) {K : AV → Hp → Nat → Prop} (hK : Go (K (checkAv o) H nx)) (hc : flatR (checkAv o)) : CallW Try.prog 49 [rowsAv o mb v] H nx K := by
  refine Go.view (args2 := [if o.cores = [] then .agg [.im 1 .any (o.mem.map i64), i64 o.shared, i64 o.locks, i64 o.buffer, .sc (.slice none 0 0)] else o.av]) (r := checkAv o) ?_ (by rw [List.map_cons, List.map_nil, h.frz 0]) ?_ hc hK
  · refine pure_args (check_pure o ho) fun c => ?_
    by_cases hc : o.cores = []
    · rw [if_pos hc, Obj.av, Obj.cells, hc]
      exact AVle.agg (.cons (fun _ h => h) (.cons (fun _ h => h) (.cons (fun _ h => h) (.cons (fun _ h => h) (.cons (AVle.nilIm _ _ _ _) .nil)))))
    · rw [if_neg hc]; exact fun _ h => h
  · split <;> simp [fitA, fitL, fitL_map]
theorem flat_check (a b c : Int) : flatR (.tup [i64 a, i64 b, i64 c]) := by
  intro x hx
  simp only [List.mem_cons, List.not_mem_nil, or_false] at hx
  rcases hx with rfl | rfl | rfl <;> exact .inl ⟨_, rfl⟩
theorem czip_at {o : Obj} {B : List Nat} (hB : B.length = o.cores.length) {i : Nat} (hi : i < o.cores.length) (d : AV) : (List.zipWith coreRow o.cores B).getD i d = coreRow (o.core i) (B.getD i 0) := by
  have h2 : i < B.length := by rw [hB]; exact hi
  rw [List.getD_eq_getElem?_getD, List.getElem?_zipWith]
  simp [List.getD, hi, h2]
def NewRows (o : Obj) (H : Hp) (nx : Nat) : AV → Hp → Nat → Prop := fun r H' n => nx ≤ n ∧ ∃ m c mm v, r = .tup [.pt m 1 0 0, i64 0] ∧ (nx ≤ m ∧ m < n) ∧ (nx ≤ c ∧ c < n) ∧ (nx ≤ mm ∧ mm < n) ∧ m ≠ c ∧ m ≠ mm ∧ c ≠ mm ∧
  (∃ d es, getH H' m = some (.row 103 8 d es) ∧ es = [.agg [.sc (.slice none 0 0), i64 o.shared, i64 o.locks, i64 o.buffer, v, .sl c o.cores.length, .sl mm o.mem.length, .sc (.slice none 0 0)]]) ∧
  (∃ d es, getH H' c = some (.row 98 19 d es) ∧ es = List.replicate o.cores.length zcore) ∧
  (∃ d, getH H' mm = some (.row 2 1 d (o.mem.map i64))) ∧
  ((v = .sc (.slice none 0 0) ∧ o.cores = []) ∨ ∃ cb B d es, v = .sl cb o.cores.length ∧ (nx ≤ cb ∧ cb < n) ∧ cb ≠ m ∧ cb ≠ c ∧ cb ≠ mm ∧ getH H' cb = some (.row 81 2 d es) ∧ es = List.zipWith coreRow o.cores B ∧ CPart o H' B o.cores.length nx n ∧ cb ∉ B ∧ m ∉ B ∧ c ∉ B ∧ mm ∉ B) ∧
  ∀ b, b < nx → getH H' b = getH H b
set_option maxHeartbeats 4000000 in
set_option maxRecDepth 20000 in
theorem new_rows0 {o : Obj} (ho : o.Wf) (ok : ObjOk o) (h : objOk o = true) {mb : Nat} {v : AV} {H : Hp} {nx : Nat} (hR : ORows o mb v H nx) : CallN Try.prog 33 [rowsAv o mb v] H nx (NewRows o H nx) := by
  refine Go.fn Try.func33 nm33 low33 res33 nt33 rfl ?_
  have hoc := ok.cores
  have hom := ok.mem
  obtain ⟨hmlt, ⟨dmb, rmb⟩, hcv⟩ := id hR
  rcases hcv with ⟨hnil, rfl⟩ | ⟨cb, B, dcb, es, rfl, hc0, hcb, hcm, rcb, hes, hB, hcB, hmB⟩
  · repeat' (first
        | ((with_reducible refine Go.red ?_); conv => whnf)
        | (with_reducible refine Go.and ?_ ?_)
        | (with_reducible exact True.intro)
        | (with_reducible refine Go.far ?_)
        | ((with_reducible refine Apt.mk ?_); (try dsimp only); omega)
        | ((with_reducible refine Ask.mk ?_); first | exact aAsk | exact aAsk2)
        | ((with_reducible refine Go.ari64 ?_ ?_ ?_); (· exact aBnd); (· exact aBnd))
        | ((with_reducible refine Go.ariu8 ?_ ?_ ?_); (· exact aBnd); (· exact aBnd))
        | (with_reducible refine Go.ari0 ?_)
        | (apply Go.elem; (· exact aElem))
        | (apply Go.row; (· exact aRow))
        | (apply Go.gives; (· exact aGives))
        | (apply Go.gives; (· exact aRes))
        | (with_reducible refine Go.unroll ?_)
        | (refine Go.gt rfl ?_)
        | (refine Go.gf rfl ?_)
        | (with_reducible refine Go.join ?_)
        | (refine Go.lt' rfl ?_)
        | (refine Go.lf' rfl ?_)
        | ((with_reducible refine Go.bool ?_ ?_) <;> intro hc <;> (try simp only [List.length_map, ne_eq, hcs] at hc) <;> try (exfalso; omega))
        | ((with_reducible refine Res.eq ?_ ?_); (· exact aFit)))
    refine check_rows ho (hR.keep aKeep aNx) ?_ (by rw [check_ok h]; exact flat_check _ _ _)
    rw [check_ok h]
    repeat' (first
        | ((with_reducible refine Go.red ?_); conv => whnf)
        | (with_reducible refine Go.and ?_ ?_)
        | (with_reducible exact True.intro)
        | (with_reducible refine Go.far ?_)
        | ((with_reducible refine Apt.mk ?_); (try dsimp only); omega)
        | ((with_reducible refine Ask.mk ?_); first | exact aAsk | exact aAsk2)
        | ((with_reducible refine Go.ari64 ?_ ?_ ?_); (· exact aBnd); (· exact aBnd))
        | ((with_reducible refine Go.ariu8 ?_ ?_ ?_); (· exact aBnd); (· exact aBnd))
        | (with_reducible refine Go.ari0 ?_)
        | (apply Go.elem; (· exact aElem))
        | (apply Go.row; (· exact aRow))
        | (apply Go.gives; (· exact aGives))
        | (apply Go.gives; (· exact aRes))
        | (with_reducible refine Go.unroll ?_)
        | (refine Go.gt rfl ?_)
        | (refine Go.gf rfl ?_)
        | (with_reducible refine Go.join ?_)
        | (refine Go.lt' rfl ?_)
        | (refine Go.lf' rfl ?_)
        | ((with_reducible refine Go.bool ?_ ?_) <;> intro hc <;> (try simp only [List.length_map, ne_eq, hcs] at hc) <;> try (exfalso; omega))
        | ((with_reducible refine Res.eq ?_ ?_); (· exact aFit)))
    refine Go.head ?_
    repeat' (first
        | ((with_reducible refine Go.red ?_); conv => whnf)
        | (with_reducible refine Go.and ?_ ?_)
        | (with_reducible exact True.intro)
        | (with_reducible refine Go.far ?_)
        | ((with_reducible refine Apt.mk ?_); (try dsimp only); omega)
        | ((with_reducible refine Ask.mk ?_); first | exact aAsk | exact aAsk2)
        | ((with_reducible refine Go.ari64 ?_ ?_ ?_); (· exact aBnd); (· exact aBnd))
        | ((with_reducible refine Go.ariu8 ?_ ?_ ?_); (· exact aBnd); (· exact aBnd))
        | (with_reducible refine Go.ari0 ?_)
        | (apply Go.elem; (· exact aElem))
        | (apply Go.row; (· exact aRow))
        | (apply Go.gives; (· exact aGives))
        | (apply Go.gives; (· exact aRes))
        | (with_reducible refine Go.unroll ?_)
        | (refine Go.gt rfl ?_)
        | (refine Go.gf rfl ?_)
        | (with_reducible refine Go.join ?_)
        | (refine Go.lt' rfl ?_)
        | (refine Go.lf' rfl ?_)
        | ((with_reducible refine Go.bool ?_ ?_) <;> intro hc <;> (try simp only [List.length_map, ne_eq, hcs] at hc) <;> try (exfalso; omega))
        | ((with_reducible refine Res.eq ?_ ?_); (· exact aFit)))
    refine Go.cloneE .any (fun es' he => clone_words_mk (by omega)) aRow (List.length_map _) ?_
    repeat' (first
        | ((with_reducible refine Go.red ?_); conv => whnf)
        | (with_reducible refine Go.and ?_ ?_)
        | (with_reducible exact True.intro)
        | (with_reducible refine Go.far ?_)
        | ((with_reducible refine Apt.mk ?_); (try dsimp only); omega)
        | ((with_reducible refine Ask.mk ?_); first | exact aAsk | exact aAsk2)
        | ((with_reducible refine Go.ari64 ?_ ?_ ?_); (· exact aBnd); (· exact aBnd))
        | ((with_reducible refine Go.ariu8 ?_ ?_ ?_); (· exact aBnd); (· exact aBnd))
        | (with_reducible refine Go.ari0 ?_)
        | (apply Go.elem; (· exact aElem))
        | (apply Go.row; (· exact aRow))
        | (apply Go.gives; (· exact aGives))
        | (apply Go.gives; (· exact aRes))
        | (with_reducible refine Go.unroll ?_)
        | (refine Go.gt rfl ?_)
        | (refine Go.gf rfl ?_)
        | (with_reducible refine Go.join ?_)
        | (refine Go.lt' rfl ?_)
        | (refine Go.lf' rfl ?_)
        | ((with_reducible refine Go.bool ?_ ?_) <;> intro hc <;> (try simp only [List.length_map, ne_eq, hcs] at hc) <;> try (exfalso; omega))
        | ((with_reducible refine Res.eq ?_ ?_); (· exact aFit)))
    have hoc0 : o.cores.length = 0 := by rw [hnil]; rfl
    have hfr : ∀ b, b < nx → getH H b = getH H b := fun _ _ => rfl
    refine ⟨aNx, nx + 34, nx + 29, nx + 32, .sc (.slice none 0 0), rfl, ⟨aNx, aNx⟩, ⟨aNx, aNx⟩, ⟨aNx, aNx⟩, by omega, by omega, by omega, ⟨_, _, aRow, (by rw [hoc0]; rfl)⟩, ⟨_, _, aRow, (by rw [hoc0]; rfl)⟩, ⟨_, aRow⟩, .inl ⟨rfl, hnil⟩, (by intro _b _hb; repeat (first | exact hfr _ _hb | exact rfl | (refine Eq.trans (getH_skipEq (by first | omega | (simp only [List.length_cons, List.length_nil]; omega))) ?_)))⟩
  · have hesl : es.length = o.cores.length := by rw [hes]; simp [hB.len]
    repeat' (first
        | ((with_reducible refine Go.red ?_); conv => whnf)
        | (with_reducible refine Go.and ?_ ?_)
        | (with_reducible exact True.intro)
        | (with_reducible refine Go.far ?_)
        | ((with_reducible refine Apt.mk ?_); (try dsimp only); omega)
        | ((with_reducible refine Ask.mk ?_); first | exact aAsk | exact aAsk2)
        | ((with_reducible refine Go.ari64 ?_ ?_ ?_); (· exact aBnd); (· exact aBnd))
        | ((with_reducible refine Go.ariu8 ?_ ?_ ?_); (· exact aBnd); (· exact aBnd))
        | (with_reducible refine Go.ari0 ?_)
        | (apply Go.elem; (· exact aElem))
        | (apply Go.row; (· exact aRow))
        | (apply Go.gives; (· exact aGives))
        | (apply Go.gives; (· exact aRes))
        | (with_reducible refine Go.unroll ?_)
        | (refine Go.gt rfl ?_)
        | (refine Go.gf rfl ?_)
        | (with_reducible refine Go.join ?_)
        | (refine Go.lt' rfl ?_)
        | (refine Go.lf' rfl ?_)
        | ((with_reducible refine Go.bool ?_ ?_) <;> intro hc <;> (try simp only [List.length_map, ne_eq, hcs] at hc) <;> try (exfalso; omega))
        | ((with_reducible refine Res.eq ?_ ?_); (· exact aFit)))
    refine check_rows ho (hR.keep aKeep aNx) ?_ (by rw [check_ok h]; exact flat_check _ _ _)
    rw [check_ok h]
    repeat' (first
        | ((with_reducible refine Go.red ?_); conv => whnf)
        | (with_reducible refine Go.and ?_ ?_)
        | (with_reducible exact True.intro)
        | (with_reducible refine Go.far ?_)
        | ((with_reducible refine Apt.mk ?_); (try dsimp only); omega)
        | ((with_reducible refine Ask.mk ?_); first | exact aAsk | exact aAsk2)
        | ((with_reducible refine Go.ari64 ?_ ?_ ?_); (· exact aBnd); (· exact aBnd))
        | ((with_reducible refine Go.ariu8 ?_ ?_ ?_); (· exact aBnd); (· exact aBnd))
        | (with_reducible refine Go.ari0 ?_)
        | (apply Go.elem; (· exact aElem))
        | (apply Go.row; (· exact aRow))
        | (apply Go.gives; (· exact aGives))
        | (apply Go.gives; (· exact aRes))
        | (with_reducible refine Go.unroll ?_)
        | (refine Go.gt rfl ?_)
        | (refine Go.gf rfl ?_)
        | (with_reducible refine Go.join ?_)
        | (refine Go.lt' rfl ?_)
        | (refine Go.lf' rfl ?_)
        | ((with_reducible refine Go.bool ?_ ?_) <;> intro hc <;> (try simp only [List.length_map, ne_eq, hcs] at hc) <;> try (exfalso; omega))
        | ((with_reducible refine Res.eq ?_ ?_); (· exact aFit)))
    refine Go.loop (fun i : Nat => [(1, .pt nx 1 0 0), (7, .pt (nx + 14) 1 0 0), (23, .sl cb o.cores.length), (24, i64 o.cores.length), (25, i64 i)]) (fun i H' n => i ≤ o.cores.length ∧ nx + 15 ≤ n ∧ (∃ d, getH H' nx = some (.row 25 5 d [rowsAv o mb (.sl cb o.cores.length)])) ∧ (∃ v d, getH H' (nx + 14) = some (.row 25 5 d [.agg [.sc (.slice none 0 0), i64 o.shared, i64 o.locks, i64 o.buffer, v]]) ∧ ((i = 0 ∧ v = .sc (.slice none 0 0)) ∨ ∃ ob B' d' es', 0 < i ∧ v = .sl ob i ∧ nx + 15 ≤ ob ∧ ob < n ∧ getH H' ob = some (.row 81 2 d' es') ∧ es' = List.zipWith coreRow (o.cores.take i) B' ∧ CPart o H' B' i (nx + 15) n ∧ ob ∉ B')) ∧ ∀ b, b < nx → getH H' b = getH H b) (fun i => o.cores.length - i) 0 aLess ⟨Nat.zero_le _, aNx, ⟨_, aRow⟩, ⟨_, _, aRow, .inl ⟨rfl, rfl⟩⟩, aKeep⟩ ?_
    rintro i H' n ⟨hi, hn, ⟨d1, r1⟩, ⟨v, d7, r7, hv⟩, hfr⟩
    have rcb9 := (hfr cb hcb).trans rcb
    have rmb9 := (hfr mb hmlt).trans rmb
    by_cases hil : i < o.cores.length
    · obtain ⟨_, hbi, dbi, rbi⟩ := hB.new i hil
      have rbi9 := (hfr _ hbi).trans rbi
      have hat := czip_at hB.len hil
      rw [← hes] at hat
      have hcd := codelen ho i hil
      rcases hv with ⟨rfl, rfl⟩ | ⟨ob, B', dob, es', hi0, rfl, hob1, hob2, rob, hes', hB', hobB⟩
      · repeat' (first
            | ((with_reducible refine Go.red ?_); conv => whnf)
            | (with_reducible refine Go.and ?_ ?_)
            | (with_reducible exact True.intro)
            | (with_reducible refine Go.far ?_)
            | ((with_reducible refine Apt.mk ?_); (try dsimp only); omega)
            | ((with_reducible refine Ask.mk ?_); first | exact aAsk | exact aAsk2)
            | ((with_reducible refine Go.ari64 ?_ ?_ ?_); (· exact aBnd); (· exact aBnd))
            | ((with_reducible refine Go.ariu8 ?_ ?_ ?_); (· exact aBnd); (· exact aBnd))
            | (with_reducible refine Go.ari0 ?_)
            | (apply Go.elem; (· (first | exact hat _ | exact aElem)))
            | (apply Go.row; (· exact aRow))
            | (apply Go.gives; (· exact aGives))
            | (apply Go.gives; (· exact aRes))
            | (with_reducible refine Go.unroll ?_)
            | (refine Go.gt rfl ?_)
            | (refine Go.gf rfl ?_)
            | (with_reducible refine Go.join ?_)
            | (refine Go.lt' rfl ?_)
            | (refine Go.lf' rfl ?_)
            | ((with_reducible refine Go.bool ?_ ?_) <;> intro hc <;> (try simp only [List.length_map, ne_eq, hcs] at hc) <;> try (exfalso; omega))
            | ((with_reducible refine Res.eq ?_ ?_); (· exact aFit)))
        refine Go.cloneE .any (fun es' he => clone_code_mk (by omega)) aRow (List.length_map _) ?_
        repeat' (first
            | ((with_reducible refine Go.red ?_); conv => whnf)
            | (with_reducible refine Go.and ?_ ?_)
            | (with_reducible exact True.intro)
            | (with_reducible refine Go.far ?_)
            | ((with_reducible refine Apt.mk ?_); (try dsimp only); omega)
            | ((with_reducible refine Ask.mk ?_); first | exact aAsk | exact aAsk2)
            | ((with_reducible refine Go.ari64 ?_ ?_ ?_); (· exact aBnd); (· exact aBnd))
            | ((with_reducible refine Go.ariu8 ?_ ?_ ?_); (· exact aBnd); (· exact aBnd))
            | (with_reducible refine Go.ari0 ?_)
            | (apply Go.elem; (· (first | exact hat _ | exact aElem)))
            | (apply Go.row; (· exact aRow))
            | (apply Go.gives; (· exact aGives))
            | (apply Go.gives; (· exact aRes))
            | (with_reducible refine Go.unroll ?_)
            | (refine Go.gt rfl ?_)
            | (refine Go.gf rfl ?_)
            | (with_reducible refine Go.join ?_)
            | (refine Go.lt' rfl ?_)
            | (refine Go.lf' rfl ?_)
            | ((with_reducible refine Go.bool ?_ ?_) <;> intro hc <;> (try simp only [List.length_map, ne_eq, hcs] at hc) <;> try (exfalso; omega))
            | ((with_reducible refine Res.eq ?_ ?_); (· exact aFit)))
        refine ⟨0 + 1, by omega, aLess, by omega, aNx, ⟨_, aRow⟩, ⟨_, _, aRow, .inr ⟨n + 14, [] ++ [n + 11], _, _, by omega, rfl, aNx, aNx, aRow, ?_, CPart.next (B := []) (i := 0) (⟨rfl, fun j hj => by omega, fun j k _ hk => by omega⟩ : CPart o H' [] 0 (nx + 15) n) ⟨aNx, aNx⟩ hn ⟨_, aRow⟩ (fun x _ _ hx => by simp at hx), by simp⟩⟩, (by intro _b _hb; repeat (first | exact hfr _ _hb | exact rfl | (refine Eq.trans (getH_skipEq (by first | omega | (simp only [List.length_cons, List.length_nil]; omega))) ?_)))⟩
        rw [czip_next (B := []) (i := 0) rfl hil]; rfl
      · have hel : es'.length = i := by rw [hes']; simp [hB'.len]; omega
        repeat' (first
            | ((with_reducible refine Go.red ?_); conv => whnf)
            | (with_reducible refine Go.and ?_ ?_)
            | (with_reducible exact True.intro)
            | (with_reducible refine Go.far ?_)
            | ((with_reducible refine Apt.mk ?_); (try dsimp only); omega)
            | ((with_reducible refine Ask.mk ?_); first | exact aAsk | exact aAsk2)
            | ((with_reducible refine Go.ari64 ?_ ?_ ?_); (· exact aBnd); (· exact aBnd))
            | ((with_reducible refine Go.ariu8 ?_ ?_ ?_); (· exact aBnd); (· exact aBnd))
            | (with_reducible refine Go.ari0 ?_)
            | (apply Go.elem; (· (first | exact hat _ | exact aElem)))
            | (apply Go.row; (· exact aRow))
            | (apply Go.gives; (· exact aGives))
            | (apply Go.gives; (· exact aRes))
            | (with_reducible refine Go.unroll ?_)
            | (refine Go.gt rfl ?_)
            | (refine Go.gf rfl ?_)
            | (with_reducible refine Go.join ?_)
            | (refine Go.lt' rfl ?_)
            | (refine Go.lf' rfl ?_)
            | ((with_reducible refine Go.bool ?_ ?_) <;> intro hc <;> (try simp only [List.length_map, ne_eq, hcs] at hc) <;> try (exfalso; omega))
            | ((with_reducible refine Res.eq ?_ ?_); (· exact aFit)))
        refine Go.cloneE .any (fun es' he => clone_code_mk (by omega)) aRow (List.length_map _) ?_
        repeat' (first
            | ((with_reducible refine Go.red ?_); conv => whnf)
            | (with_reducible refine Go.and ?_ ?_)
            | (with_reducible exact True.intro)
            | (with_reducible refine Go.far ?_)
            | ((with_reducible refine Apt.mk ?_); (try dsimp only); omega)
            | ((with_reducible refine Ask.mk ?_); first | exact aAsk | exact aAsk2)
            | ((with_reducible refine Go.ari64 ?_ ?_ ?_); (· exact aBnd); (· exact aBnd))
            | ((with_reducible refine Go.ariu8 ?_ ?_ ?_); (· exact aBnd); (· exact aBnd))
            | (with_reducible refine Go.ari0 ?_)
            | (apply Go.elem; (· (first | exact hat _ | exact aElem)))
            | (apply Go.row; (· exact aRow))
            | (apply Go.gives; (· exact aGives))
            | (apply Go.gives; (· exact aRes))
            | (with_reducible refine Go.unroll ?_)
            | (refine Go.gt rfl ?_)
            | (refine Go.gf rfl ?_)
            | (with_reducible refine Go.join ?_)
            | (refine Go.lt' rfl ?_)
            | (refine Go.lf' rfl ?_)
            | ((with_reducible refine Go.bool ?_ ?_) <;> intro hc <;> (try simp only [List.length_map, ne_eq, hcs] at hc) <;> try (exfalso; omega))
            | ((with_reducible refine Res.eq ?_ ?_); (· exact aFit)))
        refine ⟨i + 1, by omega, aLess, by omega, aNx, ⟨_, aRow⟩, ⟨_, _, aRow, .inr ⟨ob, B' ++ [n + 11], _, _, by omega, rfl, aNx, aNx, aRow, ?_, hB'.next ⟨aNx, aNx⟩ hn ⟨_, aRow⟩ (fun x h1 h2 h3 => by have h4 : x ≠ ob := fun he => hobB (he ▸ h3); exact aSkip), ?_⟩⟩, (by intro _b _hb; repeat (first | exact hfr _ _hb | exact rfl | (refine Eq.trans (getH_skipEq (by first | omega | (simp only [List.length_cons, List.length_nil]; omega))) ?_)))⟩
        · rw [czip_next hB'.len hil, ← hes']; rfl
        · simp only [List.mem_append, List.mem_singleton, not_or]
          exact ⟨hobB, by omega⟩
    · have hin : i = o.cores.length := by omega
      rcases hv with ⟨rfl, rfl⟩ | ⟨ob, B', dob, es', hi0, rfl, hob1, hob2, rob, hes', hB', hobB⟩
      · exfalso; omega
      · repeat' (first
            | ((with_reducible refine Go.red ?_); conv => whnf)
            | (with_reducible refine Go.and ?_ ?_)
            | (with_reducible exact True.intro)
            | (with_reducible refine Go.far ?_)
            | ((with_reducible refine Apt.mk ?_); (try dsimp only); omega)
            | ((with_reducible refine Ask.mk ?_); first | exact aAsk | exact aAsk2)
            | ((with_reducible refine Go.ari64 ?_ ?_ ?_); (· exact aBnd); (· exact aBnd))
            | ((with_reducible refine Go.ariu8 ?_ ?_ ?_); (· exact aBnd); (· exact aBnd))
            | (with_reducible refine Go.ari0 ?_)
            | (apply Go.elem; (· exact aElem))
            | (apply Go.row; (· exact aRow))
            | (apply Go.gives; (· exact aGives))
            | (apply Go.gives; (· exact aRes))
            | (with_reducible refine Go.unroll ?_)
            | (refine Go.gt rfl ?_)
            | (refine Go.gf rfl ?_)
            | (with_reducible refine Go.join ?_)
            | (refine Go.lt' rfl ?_)
            | (refine Go.lf' rfl ?_)
            | ((with_reducible refine Go.bool ?_ ?_) <;> intro hc <;> (try simp only [List.length_map, ne_eq, hcs] at hc) <;> try (exfalso; omega))
            | ((with_reducible refine Res.eq ?_ ?_); (· exact aFit)))
        refine Go.cloneE .any (fun es' he => clone_words_mk (by omega)) aRow (List.length_map _) ?_
        repeat' (first
            | ((with_reducible refine Go.red ?_); conv => whnf)
            | (with_reducible refine Go.and ?_ ?_)
            | (with_reducible exact True.intro)
            | (with_reducible refine Go.far ?_)
            | ((with_reducible refine Apt.mk ?_); (try dsimp only); omega)
            | ((with_reducible refine Ask.mk ?_); first | exact aAsk | exact aAsk2)
            | ((with_reducible refine Go.ari64 ?_ ?_ ?_); (· exact aBnd); (· exact aBnd))
            | ((with_reducible refine Go.ariu8 ?_ ?_ ?_); (· exact aBnd); (· exact aBnd))
            | (with_reducible refine Go.ari0 ?_)
            | (apply Go.elem; (· exact aElem))
            | (apply Go.row; (· exact aRow))
            | (apply Go.gives; (· exact aGives))
            | (apply Go.gives; (· exact aRes))
            | (with_reducible refine Go.unroll ?_)
            | (refine Go.gt rfl ?_)
            | (refine Go.gf rfl ?_)
            | (with_reducible refine Go.join ?_)
            | (refine Go.lt' rfl ?_)
            | (refine Go.lf' rfl ?_)
            | ((with_reducible refine Go.bool ?_ ?_) <;> intro hc <;> (try simp only [List.length_map, ne_eq, hcs] at hc) <;> try (exfalso; omega))
            | ((with_reducible refine Res.eq ?_ ?_); (· exact aFit)))
        have ht : o.cores.take o.cores.length = o.cores := List.take_of_length_le (Nat.le_refl _)
        subst hin
        rw [ht] at hes'
        have hnB : ∀ x, x < nx + 15 ∨ n ≤ x → x ∉ B' := fun x hx hm => by
          obtain ⟨j, hj, he⟩ := List.mem_iff_getElem.1 hm
          have g1 := hB'.new j (by rw [← hB'.len]; exact hj)
          have e : B'.getD j 0 = B'[j] := by simp [List.getD, hj]
          rw [e, he] at g1; omega
        refine ⟨aNx, n + 10, n + 5, n + 8, .sl ob o.cores.length, rfl, ⟨aNx, aNx⟩, ⟨aNx, aNx⟩, ⟨aNx, aNx⟩, by omega, by omega, by omega, ⟨_, _, aRow, (by simp only [List.length_map, Int.toNat_natCast]; rfl)⟩, ⟨_, _, aRow, (by simp only [List.length_map, Int.toNat_natCast]; rfl)⟩, ⟨_, aRow⟩, .inr ⟨ob, B', _, _, rfl, ⟨by omega, aNx⟩, by omega, by omega, by omega, aRow, hes', ⟨hB'.len, fun j hj => ?_, hB'.apart⟩, hobB, hnB _ (.inr aNx), hnB _ (.inr aNx), hnB _ (.inr aNx)⟩, (by intro _b _hb; repeat (first | exact hfr _ _hb | exact rfl | (refine Eq.trans (getH_skipEq (by first | omega | (simp only [List.length_cons, List.length_nil]; omega))) ?_)))⟩
        obtain ⟨g1, g2, d, g3⟩ := hB'.new j hj
        have h4 : B'.getD j 0 ≠ ob := fun he => hobB (he ▸ getD_mem (by rw [hB'.len]; exact hj))
        exact ⟨by omega, Nat.lt_of_lt_of_le g2 aNx, d, (aSkip : _ = getH H' _).trans g3⟩
def dropH : List Nat → Hp → Hp
  | [], H => H
  | b :: t, H => (b, none) :: dropH t H
theorem dropH_mem {H : Hp} {b : Nat} : ∀ {l : List Nat}, b ∈ l → getH (dropH l H) b = none
  | x :: t, h => by
    by_cases hb : b = x
    · subst hb; exact getH_here _ _ _
    · rw [dropH, getH_skipEq hb]
      exact dropH_mem (by simpa [hb] using h)
theorem dropH_not {H : Hp} {b : Nat} : ∀ {l : List Nat}, b ∉ l → getH (dropH l H) b = getH H b
  | [], _ => rfl
  | x :: t, h => by
    simp only [List.mem_cons, not_or] at h
    rw [dropH, getH_skipEq h.1, dropH_not h.2]
theorem dropH_or {H : Hp} (l : List Nat) (b : Nat) : getH (dropH l H) b = getH H b ∨ getH (dropH l H) b = none := by
  by_cases h : b ∈ l
  · exact .inr (dropH_mem h)
  · exact .inl (dropH_not h)
theorem new_rows {o : Obj} (ho : o.Wf) (ok : ObjOk o) (h : objOk o = true) {mb : Nat} {v : AV} {H : Hp} {nx : Nat} (hR : ORows o mb v H nx) : CallN Try.prog 33 [rowsAv o mb v] H nx (Born o H nx) := by
  refine (new_rows0 ho ok h hR).wk ?_
  rintro r H' n ⟨hn, m, c, mm, v, rfl, hm, hc, hmm, a1, a2, a3, ⟨d1, _, r1, rfl⟩, ⟨d2, _, r2, rfl⟩, ⟨d3, r3⟩, hv, hf⟩
  rcases hv with ⟨rfl, hoc⟩ | ⟨cb, B, d4, es, rfl, hcb, b1, b2, b3, r4, hes, hB, hcB, hmB, hcB2, hmmB⟩
  · refine ⟨_, _, _, new_tell (Hd := H') hm.2 hc.2 hmm.2 a1 a2 a3 ⟨_, r1⟩ ⟨_, r2⟩ (fun b => .inl rfl) (fun w0 x x2 _ _ _ _ _ => ?_), born hn hm hc hmm a1 a2 a3 ⟨_, r3⟩ hf⟩
    rw [hoc]; exact AVle.nilIm _ _ _ _
  · have hBn : ∀ x, x ∈ B → nx ≤ x ∧ x < n := fun x hx => by
      obtain ⟨j, hj, he⟩ := List.mem_iff_getElem.1 hx
      have g1 := hB.new j (by rw [← hB.len]; exact hj)
      have e : B.getD j 0 = B[j] := by simp [List.getD, hj]
      rw [e, he] at g1; exact ⟨g1.1, g1.2.1⟩
    have hbn : ∀ b, b < nx → b ∉ cb :: B := fun b hb hm => by
      rcases List.mem_cons.1 hm with rfl | hm
      · omega
      · have := hBn _ hm; omega
    refine ⟨_, _, _, new_tell (Hd := dropH (cb :: B) H') hm.2 hc.2 hmm.2 a1 a2 a3 ⟨_, r1⟩ ⟨_, r2⟩ (fun b => dropH_or _ b) (fun w0 x x2 hS hx hw hle hM => ?_), born hn hm hc hmm a1 a2 a3 ⟨d3, by rw [dropH_not (by simp only [List.mem_cons, not_or]; exact ⟨Ne.symm b3, hmmB⟩)]; exact r3⟩ (fun b hb => by rw [dropH_not (hbn b hb)]; exact hf b hb)⟩
    have hl : o.cores.length = es.length := by rw [hes]; simp [hB.len]
    rw [hl]
    have gone : ∀ b, b ∈ cb :: B → b ≠ m → b ≠ c → b < n → getH (newH o m c mm n (dropH (cb :: B) H')) b = none := fun b hb h1 h2 h3 => by rw [newH_at o _ _ h1 h2 h3, dropH_mem hb]
    refine AVle.imS hS .any hw (by rw [hx]; exact r4) (fun blk p z hρ => hM cb _ blk p z r4 (gone cb (by simp) b1 b2 hcb.2) hρ) (AVles.of_get (by rw [hes]; simp [hB.len]) fun i hi => ?_)
    have hi2 : i < o.cores.length := by omega
    have e1 : es.getD i .any = coreRow (o.core i) (B.getD i 0) := by rw [hes]; exact czip_at hB.len hi2 _
    have e2 : (o.cores.map Core.av).getD i .any = (o.core i).av := getD_av _ _ _ _ hi2
    rw [e1, e2]
    obtain ⟨g1, g2, d5, g3⟩ := hB.new i hi2
    have hmem : B.getD i 0 ∈ B := getD_mem (by rw [hB.len]; exact hi2)
    refine AVle.agg (.cons (AVle.keep hle _) (.cons ?_ .nil))
    have hl2 : (o.core i).code.length = ((o.core i).code.map Instr.av).length := by simp
    rw [hl2]
    exact AVle.im hS hle .any hw (by rw [hx]; exact g3) (fun blk p z hρ => hM _ _ blk p z g3 (gone _ (by simp only [List.mem_cons]; exact .inr hmem) (fun h => hmB (h ▸ hmem)) (fun h => hcB2 (h ▸ hmem)) g2) hρ)
theorem new_rows_bad {o : Obj} (ho : o.Wf) (h : objOk o = false) {mb : Nat} {v : AV} {H : Hp} {nx : Nat} (hR : ORows o mb v H nx) : CallN Try.prog 33 [rowsAv o mb v] H nx (Rej H nx) := by
  refine Go.fn Try.func33 nm33 low33 res33 nt33 rfl ?_
  obtain ⟨k, n, hk⟩ := check_bad h
  obtain ⟨hmlt, ⟨dmb, rmb⟩, hcv⟩ := id hR
  rcases hcv with ⟨hnil, rfl⟩ | ⟨cb, B, dcb, es, rfl, hc0, hcb, hcm, rcb, hes, hB, hcB, hmB⟩
  all_goals
    repeat' (first
        | ((with_reducible refine Go.red ?_); conv => whnf)
        | (with_reducible refine Go.and ?_ ?_)
        | (with_reducible exact True.intro)
        | (with_reducible refine Go.far ?_)
        | ((with_reducible refine Apt.mk ?_); (try dsimp only); omega)
        | ((with_reducible refine Ask.mk ?_); first | exact aAsk | exact aAsk2)
        | ((with_reducible refine Go.ari64 ?_ ?_ ?_); (· exact aBnd); (· exact aBnd))
        | ((with_reducible refine Go.ariu8 ?_ ?_ ?_); (· exact aBnd); (· exact aBnd))
        | (with_reducible refine Go.ari0 ?_)
        | (apply Go.elem; (· exact aElem))
        | (apply Go.row; (· exact aRow))
        | (apply Go.gives; (· exact aGives))
        | (apply Go.gives; (· exact aRes))
        | (with_reducible refine Go.unroll ?_)
        | (refine Go.gt rfl ?_)
        | (refine Go.gf rfl ?_)
        | (with_reducible refine Go.join ?_)
        | (refine Go.lt' rfl ?_)
        | (refine Go.lf' rfl ?_)
        | ((with_reducible refine Go.bool ?_ ?_) <;> intro hc <;> (try simp only [List.length_map, ne_eq, hcs] at hc) <;> try (exfalso; omega))
        | ((with_reducible refine Res.eq ?_ ?_); (· exact aFit)))
    refine check_rows ho (hR.keep aKeep aNx) ?_ (by rw [hk]; exact flat_check _ _ _)
    rw [hk]
    repeat' (first
        | ((with_reducible refine Go.red ?_); conv => whnf)
        | (with_reducible refine Go.and ?_ ?_)
        | (with_reducible exact True.intro)
        | (with_reducible refine Go.far ?_)
        | ((with_reducible refine Apt.mk ?_); (try dsimp only); omega)
        | ((with_reducible refine Ask.mk ?_); first | exact aAsk | exact aAsk2)
        | ((with_reducible refine Go.ari64 ?_ ?_ ?_); (· exact aBnd); (· exact aBnd))
        | ((with_reducible refine Go.ariu8 ?_ ?_ ?_); (· exact aBnd); (· exact aBnd))
        | (with_reducible refine Go.ari0 ?_)
        | (apply Go.elem; (· exact aElem))
        | (apply Go.row; (· exact aRow))
        | (apply Go.gives; (· exact aGives))
        | (apply Go.gives; (· exact aRes))
        | (with_reducible refine Go.unroll ?_)
        | (refine Go.gt rfl ?_)
        | (refine Go.gf rfl ?_)
        | (with_reducible refine Go.join ?_)
        | (refine Go.lt' rfl ?_)
        | (refine Go.lf' rfl ?_)
        | ((with_reducible refine Go.bool ?_ ?_) <;> intro hc <;> (try simp only [List.length_map, ne_eq, hcs] at hc) <;> try (exfalso; omega))
        | ((with_reducible refine Res.eq ?_ ?_); (· exact aFit)))
    exact ⟨⟨rfl, aNx, aKeep⟩⟩
theorem made_rows {o : Obj} (ho : o.Wf) (h : objOk o = true) {mb : Nat} {v : AV} {H : Hp} {nx : Nat} (hR : ORows o mb v H nx) : CallN Try.prog 13 [rowsAv o mb v] H nx (Made o H nx) := by
  refine Go.fn Try.func13 nm13 low13 res13 nt13 rfl ?_
  have hcv := hR.cores
  rcases hcv with ⟨hnil, rfl⟩ | ⟨cb, B, dcb, es, rfl, hc0, hcb, hcm, rcb, hes, hB, hcB, hmB⟩
  all_goals
    repeat' (first
        | ((with_reducible refine Go.red ?_); conv => whnf)
        | (with_reducible refine Go.and ?_ ?_)
        | (with_reducible exact True.intro)
        | (with_reducible refine Go.far ?_)
        | ((with_reducible refine Apt.mk ?_); (try dsimp only); omega)
        | ((with_reducible refine Ask.mk ?_); first | exact aAsk | exact aAsk2)
        | ((with_reducible refine Go.ari64 ?_ ?_ ?_); (· exact aBnd); (· exact aBnd))
        | ((with_reducible refine Go.ariu8 ?_ ?_ ?_); (· exact aBnd); (· exact aBnd))
        | (with_reducible refine Go.ari0 ?_)
        | (apply Go.elem; (· exact aElem))
        | (apply Go.row; (· exact aRow))
        | (apply Go.gives; (· exact aGives))
        | (apply Go.gives; (· exact aRes))
        | (with_reducible refine Go.unroll ?_)
        | (refine Go.gt rfl ?_)
        | (refine Go.gf rfl ?_)
        | (with_reducible refine Go.join ?_)
        | (refine Go.lt' rfl ?_)
        | (refine Go.lf' rfl ?_)
        | ((with_reducible refine Go.bool ?_ ?_) <;> intro hc <;> (try simp only [List.length_map, ne_eq, hcs] at hc) <;> try (exfalso; omega))
        | ((with_reducible refine Res.eq ?_ ?_); (· exact aFit)))
    refine Go.callN (new_rows ho (objOk_ok h) h (hR.keep aKeep aNx)) ?_
    rintro _ H2 n2 ⟨L, rfl, hM, h1, h2, h3⟩
    have e1 : nx + 4 ≤ n2 := Nat.le_trans aNx h1
    have e2 : ∀ b ∈ L.ids, nx + 4 ≤ b := fun b hb => Nat.le_trans aNx (h2 b hb)
    have hfr : ∀ b, b < nx → getH H2 b = getH H b := fun b hb => (h3 b aNx).trans aSkip
    clear h1 h2 h3
    repeat' (first
        | ((with_reducible refine Go.red ?_); conv => whnf)
        | (with_reducible refine Go.and ?_ ?_)
        | (with_reducible exact True.intro)
        | (with_reducible refine Go.far ?_)
        | ((with_reducible refine Apt.mk ?_); (try dsimp only); omega)
        | ((with_reducible refine Ask.mk ?_); first | exact aAsk | exact aAsk2)
        | ((with_reducible refine Go.ari64 ?_ ?_ ?_); (· exact aBnd); (· exact aBnd))
        | ((with_reducible refine Go.ariu8 ?_ ?_ ?_); (· exact aBnd); (· exact aBnd))
        | (with_reducible refine Go.ari0 ?_)
        | (apply Go.elem; (· exact aElem))
        | (apply Go.row; (· exact aRow))
        | (apply Go.gives; (· exact aGives))
        | (apply Go.gives; (· exact aRes))
        | (with_reducible refine Go.unroll ?_)
        | (refine Go.gt rfl ?_)
        | (refine Go.gf rfl ?_)
        | (with_reducible refine Go.join ?_)
        | (refine Go.lt' rfl ?_)
        | (refine Go.lf' rfl ?_)
        | ((with_reducible refine Go.bool ?_ ?_) <;> intro hc <;> (try simp only [List.length_map, ne_eq, hcs] at hc) <;> try (exfalso; omega))
        | ((with_reducible refine Res.eq ?_ ?_); (· exact aFit)))
    exact ⟨L, rfl, hM.keep aKeep aNx, aNx, fun b hb => by have := e2 b hb; omega, (by intro _b _hb; repeat (first | exact hfr _ _hb | exact rfl | (refine Eq.trans (getH_skipEq (by first | omega | (simp only [List.length_cons, List.length_nil]; omega))) ?_)))⟩
theorem made_rows_bad {o : Obj} (ho : o.Wf) (h : objOk o = false) {mb : Nat} {v : AV} {H : Hp} {nx : Nat} (hR : ORows o mb v H nx) : CallN Try.prog 13 [rowsAv o mb v] H nx (Kept H nx (.tup [.sc (.pointer none), bl false])) := by
  refine Go.fn Try.func13 nm13 low13 res13 nt13 rfl ?_
  have hcv := hR.cores
  rcases hcv with ⟨hnil, rfl⟩ | ⟨cb, B, dcb, es, rfl, hc0, hcb, hcm, rcb, hes, hB, hcB, hmB⟩
  all_goals
    repeat' (first
        | ((with_reducible refine Go.red ?_); conv => whnf)
        | (with_reducible refine Go.and ?_ ?_)
        | (with_reducible exact True.intro)
        | (with_reducible refine Go.far ?_)
        | ((with_reducible refine Apt.mk ?_); (try dsimp only); omega)
        | ((with_reducible refine Ask.mk ?_); first | exact aAsk | exact aAsk2)
        | ((with_reducible refine Go.ari64 ?_ ?_ ?_); (· exact aBnd); (· exact aBnd))
        | ((with_reducible refine Go.ariu8 ?_ ?_ ?_); (· exact aBnd); (· exact aBnd))
        | (with_reducible refine Go.ari0 ?_)
        | (apply Go.elem; (· exact aElem))
        | (apply Go.row; (· exact aRow))
        | (apply Go.gives; (· exact aGives))
        | (apply Go.gives; (· exact aRes))
        | (with_reducible refine Go.unroll ?_)
        | (refine Go.gt rfl ?_)
        | (refine Go.gf rfl ?_)
        | (with_reducible refine Go.join ?_)
        | (refine Go.lt' rfl ?_)
        | (refine Go.lf' rfl ?_)
        | ((with_reducible refine Go.bool ?_ ?_) <;> intro hc <;> (try simp only [List.length_map, ne_eq, hcs] at hc) <;> try (exfalso; omega))
        | ((with_reducible refine Res.eq ?_ ?_); (· exact aFit)))
    refine Go.callN (new_rows_bad ho h (hR.keep aKeep aNx)) ?_
    rintro _ H2 n2 ⟨rfl, h1, h3⟩
    have e1 : nx + 4 ≤ n2 := Nat.le_trans aNx h1
    have hfr : ∀ b, b < nx → getH H2 b = getH H b := fun b hb => (h3 b aNx).trans aSkip
    clear h1 h3
    repeat' (first
        | ((with_reducible refine Go.red ?_); conv => whnf)
        | (with_reducible refine Go.and ?_ ?_)
        | (with_reducible exact True.intro)
        | (with_reducible refine Go.far ?_)
        | ((with_reducible refine Apt.mk ?_); (try dsimp only); omega)
        | ((with_reducible refine Ask.mk ?_); first | exact aAsk | exact aAsk2)
        | ((with_reducible refine Go.ari64 ?_ ?_ ?_); (· exact aBnd); (· exact aBnd))
        | ((with_reducible refine Go.ariu8 ?_ ?_ ?_); (· exact aBnd); (· exact aBnd))
        | (with_reducible refine Go.ari0 ?_)
        | (apply Go.elem; (· exact aElem))
        | (apply Go.row; (· exact aRow))
        | (apply Go.gives; (· exact aGives))
        | (apply Go.gives; (· exact aRes))
        | (with_reducible refine Go.unroll ?_)
        | (refine Go.gt rfl ?_)
        | (refine Go.gf rfl ?_)
        | (with_reducible refine Go.join ?_)
        | (refine Go.lt' rfl ?_)
        | (refine Go.lf' rfl ?_)
        | ((with_reducible refine Go.bool ?_ ?_) <;> intro hc <;> (try simp only [List.length_map, ne_eq, hcs] at hc) <;> try (exfalso; omega))
        | ((with_reducible refine Res.eq ?_ ?_); (· exact aFit)))
    exact ⟨rfl, aNx, (by intro _b _hb; repeat (first | exact hfr _ _hb | exact rfl | (refine Eq.trans (getH_skipEq (by first | omega | (simp only [List.length_cons, List.length_nil]; omega))) ?_)))⟩
end Go.Proofs.Ytliabecchkolgaa
