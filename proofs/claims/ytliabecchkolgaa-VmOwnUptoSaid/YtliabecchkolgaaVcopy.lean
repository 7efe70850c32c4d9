/- An object of one's own; objects that are the same. -/
import Derived.Test.YtliabecchkolgaaVfork
import Derived.Test.YtliabecchkolgaaVrdy
namespace Go.Proofs.Ytliabecchkolgaa
open Go Go.Abs Go.Proofs Go.RowKit
set_option linter.unusedSimpArgs false
set_option linter.unusedVariables false
abbrev coreRow (c : Core) (b : Nat) : AV := .agg [.sc (.string c.name), .sl b c.code.length]
/-- The first cores' code is copied. -/
structure CPart (o : Obj) (H : Hp) (B : List Nat) (i lo n : Nat) : Prop where
  len : B.length = i
  new : ∀ j, j < i → lo ≤ B.getD j 0 ∧ B.getD j 0 < n ∧ ∃ d, getH H (B.getD j 0) = some (.row 85 9 d ((o.core j).code.map Instr.av))
  apart : ∀ j k, j < k → k < i → B.getD j 0 ≠ B.getD k 0
theorem CPart.next {o : Obj} {H H' : Hp} {B : List Nat} {i lo n n' b : Nat} (h : CPart o H B i lo n) (hb : n ≤ b ∧ b < n') (hlo : lo ≤ n) (hr : ∃ d, getH H' b = some (.row 85 9 d ((o.core i).code.map Instr.av))) (hf : ∀ x, lo ≤ x → x < n → x ∈ B → getH H' x = getH H x) : CPart o H' (B ++ [b]) (i + 1) lo n' := by
  have same : (B ++ [b]).getD i 0 = b := by simp [List.getD, ← h.len]
  have ne : ∀ j, j < i → (B ++ [b]).getD j 0 = B.getD j 0 := fun j hj => by simp [List.getD, List.getElem?_append, h.len, hj]
  refine ⟨by simp [h.len], fun j h1 => ?_, fun j k h1 h2 => ?_⟩
  · by_cases hj : j = i
    · subst hj; rw [same]; exact ⟨by omega, by omega, hr⟩
    · obtain ⟨g1, g2, d, g3⟩ := h.new j (by omega)
      rw [ne j (by omega)]
      exact ⟨g1, by omega, d, (hf _ g1 g2 (getD_mem (by rw [h.len]; omega))).trans g3⟩
  · by_cases hk : k = i
    · subst hk
      rw [same, ne j (by omega)]
      have := (h.new j (by omega)).2.1
      omega
    · rw [ne k (by omega), ne j (by omega)]
      exact h.apart j k h1 (by omega)
theorem czip_next {o : Obj} {B : List Nat} {i : Nat} (hB : B.length = i) (hi : i < o.cores.length) (b : Nat) : List.zipWith coreRow (o.cores.take (i + 1)) (B ++ [b]) = List.zipWith coreRow (o.cores.take i) B ++ [coreRow (o.core i) b] := by
  rw [List.take_succ_eq_append_getElem hi, List.zipWith_append (by rw [List.length_take, hB]; omega)]
  simp [List.getD, hi]
theorem codelen {o : Obj} (ho : o.Wf) (i : Nat) (hi : i < o.cores.length) : (o.core i).code.length * 64 ≤ 140737488351232 := by
  have : o.core i ∈ o.cores := by simp [Obj.core, List.getD, hi]
  exact (ho.cores _ this).len
/-- The copy, as it lies. -/
def OCopied (o : Obj) (H : Hp) (nx : Nat) : AV → Hp → Nat → Prop := fun r H' n => ∃ mb v, r = .agg [.sl mb o.mem.length, i64 o.shared, i64 o.locks, i64 o.buffer, v] ∧ (nx ≤ mb ∧ mb < n) ∧ nx ≤ n ∧ (∃ d, getH H' mb = some (.row 2 1 d (o.mem.map i64))) ∧ (∀ b, b < nx → getH H' b = getH H b) ∧
  ((o.cores = [] ∧ v = .sc (.slice none 0 0)) ∨ ∃ cb B d es, v = .sl cb o.cores.length ∧ 0 < o.cores.length ∧ (nx ≤ cb ∧ cb < n) ∧ cb ≠ mb ∧ getH H' cb = some (.row 81 2 d es) ∧ es = List.zipWith coreRow o.cores B ∧ CPart o H' B o.cores.length nx n ∧ cb ∉ B ∧ mb ∉ B)
set_option maxHeartbeats 4000000 in
theorem ocopy_call (o : Obj) (ho : o.Wf) {H : Hp} {nx : Nat} : CallN Try.prog 30 [o.av] H nx (OCopied o H nx) := by
  refine Go.fn Try.func30 nm30 low30 res30 nt30 rfl ?_
  have hml := ho.memlen
  have hcl := ho.corelen
  repeat' (first
    | ((with_reducible refine Go.red ?_); conv => whnf)
    | (with_reducible refine Go.and ?_ ?_)
    | (with_reducible exact True.intro)
    | (with_reducible refine Go.far ?_)
    | ((with_reducible refine Apt.mk ?_); (try dsimp only); omega)
    | ((with_reducible refine Ask.mk ?_); first | exact aAsk | exact aAsk2)
    | ((with_reducible refine Go.ari64 ?_ ?_ ?_); (· exact aBnd); (· exact aBnd))
    | ((with_reducible refine Go.ariu8 ?_ ?_ ?_); (· exact aBnd); (· exact aBnd))
    | (with_reducible refine Go.ari0 ?_)
    | (apply Go.elem; (· exact aElem))
    | (apply Go.row; (· exact aRow))
    | (apply Go.gives; (· exact aGives))
    | (apply Go.gives; (· exact aRes))
    | (with_reducible refine Go.unroll ?_)
    | (refine Go.gt rfl ?_)
    | (refine Go.gf rfl ?_)
    | (with_reducible refine Go.join ?_)
    | (refine Go.lt' rfl ?_)
    | (refine Go.lf' rfl ?_)
    | ((with_reducible refine Go.bool ?_ ?_) <;> intro hc <;> (try simp only [List.length_map, ne_eq, hcs] at hc) <;> try (exfalso; omega))
    | ((with_reducible refine Res.eq ?_ ?_); (· exact aFit)))
  refine Go.loop (fun p : Nat × AV => [(1, .pt nx 1 0 0), (2, .pt (nx + 1) 1 0 0), (3, p.2), (4, i64 p.1)]) (fun p H9 n9 => p.1 ≤ o.cores.length ∧ nx + 10 ≤ n9 ∧ (∃ d, getH H9 nx = some (.row 25 5 d [.agg [.sl (nx + 2) (0 + (o.mem.map i64).length), i64 o.shared, i64 o.locks, i64 o.buffer, .im 2 .any (o.cores.map Core.av)]])) ∧
      (∃ d e, getH H9 (nx + 1) = some (.row 25 5 d [.agg e]) ∧ e.length = 5) ∧ (∃ d, getH H9 (nx + 2) = some (.row 2 1 d (o.mem.map i64))) ∧ (∀ b, b < nx → getH H9 b = getH H b) ∧
      ((p.1 = 0 ∧ p.2 = .sc (.slice none 0 0)) ∨ ∃ cb B d es, 0 < p.1 ∧ p.2 = .sl cb p.1 ∧ nx + 10 ≤ cb ∧ cb < n9 ∧ getH H9 cb = some (.row 81 2 d es) ∧ es = List.zipWith coreRow (o.cores.take p.1) B ∧ CPart o H9 B p.1 (nx + 10) n9 ∧ cb ∉ B))
    (fun p => o.cores.length - p.1) (0, .sc (.slice none 0 0)) aLess ⟨Nat.zero_le _, aNx, ⟨_, aRow⟩, ⟨_, _, aRow, rfl⟩, ⟨_, aRow⟩, fun b hb => aSkip, .inl ⟨rfl, rfl⟩⟩ ?_
  rintro ⟨i, v⟩ H9 n9 ⟨hi, hn, ⟨d1, r1⟩, ⟨d2, e2, r2, he2⟩, ⟨d3, r3⟩, hfr, hv⟩
  simp only at hi hv
  dsimp only
  by_cases hi2 : i < o.cores.length
  · have hcd := codelen ho i hi2
    rcases hv with ⟨rfl, rfl⟩ | ⟨cb, B, d5, es, hi0, rfl, hcb1, hcb2, rcb, hes, hB, hcbB⟩
    · repeat' (first
          | ((with_reducible refine Go.red ?_); conv => whnf)
          | (with_reducible refine Go.and ?_ ?_)
          | (with_reducible exact True.intro)
          | (with_reducible refine Go.far ?_)
          | ((with_reducible refine Apt.mk ?_); (try dsimp only); omega)
          | ((with_reducible refine Ask.mk ?_); first | exact aAsk | exact aAsk2)
          | ((with_reducible refine Go.ari64 ?_ ?_ ?_); (· exact aBnd); (· exact aBnd))
          | ((with_reducible refine Go.ariu8 ?_ ?_ ?_); (· exact aBnd); (· exact aBnd))
          | (with_reducible refine Go.ari0 ?_)
          | (apply Go.elem; (· (first | exact getD_av _ _ _ _ hi2 | exact aElem)))
          | (apply Go.row; (· exact aRow))
          | (apply Go.gives; (· exact aGives))
          | (apply Go.gives; (· exact aRes))
          | (with_reducible refine Go.unroll ?_)
          | (refine Go.gt rfl ?_)
          | (refine Go.gf rfl ?_)
          | (with_reducible refine Go.join ?_)
          | (refine Go.lt' rfl ?_)
          | (refine Go.lf' rfl ?_)
          | ((with_reducible refine Go.bool ?_ ?_) <;> intro hc <;> (try simp only [List.length_map, ne_eq, hcs] at hc) <;> try (exfalso; omega))
          | ((with_reducible refine Res.eq ?_ ?_); (· exact aFit)))
      · exact ⟨by rw [Nat.zero_add, List.length_map]; exact Nat.le_trans hcd (by decide)⟩
      refine ⟨(1, .sl (n9 + 22) 1), by show o.cores.length - 1 < o.cores.length - 0; omega, aLess, by show 1 ≤ o.cores.length; omega, aNx, ⟨_, aRow⟩, ⟨_, _, aRow, he2⟩, ⟨_, aRow⟩, fun b hb => (aSkip : _ = getH H9 b).trans (hfr b hb), .inr ⟨n9 + 22, [n9 + 12], _, _, by show 0 < 1; omega, rfl, by omega, aNx, aRow, ?_, ?_, by simp⟩⟩
      · show _ = List.zipWith coreRow (o.cores.take (0 + 1)) ([] ++ [n9 + 12])
        rw [czip_next (B := []) (i := 0) rfl hi2]
        show [AV.agg [_, .sl _ _]] = [] ++ [AV.agg [_, .sl _ _]]
        simp
      · exact CPart.next (B := []) (i := 0) (⟨rfl, fun j hj => by omega, fun j k _ hk => by omega⟩ : CPart o H9 [] 0 (nx + 10) n9) ⟨aNx, aNx⟩ hn ⟨_, aRow⟩ (fun x _ _ hx => by simp at hx)
    · have hel : es.length = i := by rw [hes]; simp [hB.len]; omega
      repeat' (first
          | ((with_reducible refine Go.red ?_); conv => whnf)
          | (with_reducible refine Go.and ?_ ?_)
          | (with_reducible exact True.intro)
          | (with_reducible refine Go.far ?_)
          | ((with_reducible refine Apt.mk ?_); (try dsimp only); omega)
          | ((with_reducible refine Ask.mk ?_); first | exact aAsk | exact aAsk2)
          | ((with_reducible refine Go.ari64 ?_ ?_ ?_); (· exact aBnd); (· exact aBnd))
          | ((with_reducible refine Go.ariu8 ?_ ?_ ?_); (· exact aBnd); (· exact aBnd))
          | (with_reducible refine Go.ari0 ?_)
          | (apply Go.elem; (· (first | exact getD_av _ _ _ _ hi2 | exact aElem)))
          | (apply Go.row; (· exact aRow))
          | (apply Go.gives; (· exact aGives))
          | (apply Go.gives; (· exact aRes))
          | (with_reducible refine Go.unroll ?_)
          | (refine Go.gt rfl ?_)
          | (refine Go.gf rfl ?_)
          | (with_reducible refine Go.join ?_)
          | (refine Go.lt' rfl ?_)
          | (refine Go.lf' rfl ?_)
          | ((with_reducible refine Go.bool ?_ ?_) <;> intro hc <;> (try simp only [List.length_map, ne_eq, hcs] at hc) <;> try (exfalso; omega))
          | ((with_reducible refine Res.eq ?_ ?_); (· exact aFit)))
      · exact ⟨by rw [Nat.zero_add, List.length_map]; exact Nat.le_trans hcd (by decide)⟩
      refine ⟨(i + 1, .sl cb (i + 1)), by show o.cores.length - (i + 1) < o.cores.length - i; omega, aLess, by show i + 1 ≤ o.cores.length; omega, aNx, ⟨_, aRow⟩, ⟨_, _, aRow, he2⟩, ⟨_, aRow⟩, fun b hb => (aSkip : _ = getH H9 b).trans (hfr b hb), .inr ⟨cb, B ++ [n9 + 12], _, _, by show 0 < i + 1; omega, rfl, hcb1, by exact Nat.lt_of_lt_of_le hcb2 aNx, aRow, ?_, ?_, ?_⟩⟩
      · show _ = List.zipWith coreRow (o.cores.take (i + 1)) (B ++ [n9 + 12])
        rw [czip_next hB.len hi2, ← hes]
        congr 1
        show [AV.agg [_, .sl _ _]] = [AV.agg [_, .sl _ _]]
        simp
      · exact hB.next ⟨aNx, aNx⟩ hn ⟨_, aRow⟩ (fun x h1 h2 h3 => by have h4 : x ≠ cb := fun he => hcbB (he ▸ h3); exact aSkip)
      · simp only [List.mem_append, List.mem_singleton, not_or]
        exact ⟨hcbB, by omega⟩
  · have hin : i = o.cores.length := by omega
    subst hin
    have ht : o.cores.take o.cores.length = o.cores := List.take_of_length_le (Nat.le_refl _)
    rcases hv with ⟨h0, rfl⟩ | ⟨cb, B, d5, es, hi0, rfl, hcb1, hcb2, rcb, hes, hB, hcbB⟩
    · repeat' (first
          | ((with_reducible refine Go.red ?_); conv => whnf)
          | (with_reducible refine Go.and ?_ ?_)
          | (with_reducible exact True.intro)
          | (with_reducible refine Go.far ?_)
          | ((with_reducible refine Apt.mk ?_); (try dsimp only); omega)
          | ((with_reducible refine Ask.mk ?_); first | exact aAsk | exact aAsk2)
          | ((with_reducible refine Go.ari64 ?_ ?_ ?_); (· exact aBnd); (· exact aBnd))
          | ((with_reducible refine Go.ariu8 ?_ ?_ ?_); (· exact aBnd); (· exact aBnd))
          | (with_reducible refine Go.ari0 ?_)
          | (apply Go.elem; (· exact aElem))
          | (apply Go.row; (· exact aRow))
          | (apply Go.gives; (· exact aGives))
          | (apply Go.gives; (· exact aRes))
          | (with_reducible refine Go.unroll ?_)
          | (refine Go.gt rfl ?_)
          | (refine Go.gf rfl ?_)
          | (with_reducible refine Go.join ?_)
          | (refine Go.lt' rfl ?_)
          | (refine Go.lf' rfl ?_)
          | ((with_reducible refine Go.bool ?_ ?_) <;> intro hc <;> (try simp only [List.length_map, ne_eq, hcs] at hc) <;> try (exfalso; omega))
          | ((with_reducible refine Res.eq ?_ ?_); (· exact aFit)))
      refine ⟨nx + 2, _, ?_, ⟨by omega, aNx⟩, aNx, ⟨_, aRow⟩, fun b hb => (aSkip : _ = getH H9 b).trans (hfr b hb), .inl ⟨List.eq_nil_of_length_eq_zero h0, rfl⟩⟩
      simp
    · repeat' (first
          | ((with_reducible refine Go.red ?_); conv => whnf)
          | (with_reducible refine Go.and ?_ ?_)
          | (with_reducible exact True.intro)
          | (with_reducible refine Go.far ?_)
          | ((with_reducible refine Apt.mk ?_); (try dsimp only); omega)
          | ((with_reducible refine Ask.mk ?_); first | exact aAsk | exact aAsk2)
          | ((with_reducible refine Go.ari64 ?_ ?_ ?_); (· exact aBnd); (· exact aBnd))
          | ((with_reducible refine Go.ariu8 ?_ ?_ ?_); (· exact aBnd); (· exact aBnd))
          | (with_reducible refine Go.ari0 ?_)
          | (apply Go.elem; (· exact aElem))
          | (apply Go.row; (· exact aRow))
          | (apply Go.gives; (· exact aGives))
          | (apply Go.gives; (· exact aRes))
          | (with_reducible refine Go.unroll ?_)
          | (refine Go.gt rfl ?_)
          | (refine Go.gf rfl ?_)
          | (with_reducible refine Go.join ?_)
          | (refine Go.lt' rfl ?_)
          | (refine Go.lf' rfl ?_)
          | ((with_reducible refine Go.bool ?_ ?_) <;> intro hc <;> (try simp only [List.length_map, ne_eq, hcs] at hc) <;> try (exfalso; omega))
          | ((with_reducible refine Res.eq ?_ ?_); (· exact aFit)))
      rw [ht] at hes
      refine ⟨nx + 2, _, ?_, ⟨by omega, aNx⟩, aNx, ⟨_, aRow⟩, fun b hb => (aSkip : _ = getH H9 b).trans (hfr b hb), .inr ⟨cb, B, _, _, rfl, hi0, ⟨by omega, Nat.lt_of_lt_of_le hcb2 aNx⟩, by omega, aRow, hes, ⟨hB.len, fun j hj => ?_, hB.apart⟩, hcbB, fun hm => ?_⟩⟩
      · simp
      · obtain ⟨g1, g2, d, g3⟩ := hB.new j hj
        have h4 : B.getD j 0 ≠ cb := fun he => hcbB (he ▸ getD_mem (by rw [hB.len]; exact hj))
        exact ⟨by omega, Nat.lt_of_lt_of_le g2 aNx, d, (aSkip : _ = getH H9 _).trans g3⟩
      · obtain ⟨j, hj, he⟩ := List.mem_iff_getElem.1 hm
        have g1 := (hB.new j (by rw [← hB.len]; exact hj)).1
        have e : B.getD j 0 = B[j] := by simp [List.getD, hj]
        rw [e, he] at g1; omega
theorem frz_row {H : Hp} {c : Core} {b : Nat} {d : AV} (k : Nat) (h : getH H b = some (.row 85 9 d (c.code.map Instr.av))) : Abs.frz H (k + 3) (coreRow c b) = c.av := by
  simp only [coreRow, Abs.frz, List.map_cons, List.map_nil, frz_sc, h]
  rw [if_pos (by simp), frz_same (k + 1) (by simp [fitL_map, fitA])]
  rfl
theorem frz_rows {o : Obj} {H : Hp} {B : List Nat} {lo n : Nat} (k : Nat) (h : CPart o H B o.cores.length lo n) : (List.zipWith coreRow o.cores B).map (Abs.frz H (k + 3)) = o.cores.map Core.av := by
  apply List.ext_getElem
  · simp [h.len]
  · intro i p1 p2
    have hi : i < o.cores.length := by simpa using p2
    have hib : i < B.length := by rw [h.len]; exact hi
    obtain ⟨_, _, d, g⟩ := h.new i hi
    have e1 : B.getD i 0 = B[i] := by simp [List.getD, hib]
    have e2 : o.core i = o.cores[i] := by simp [Obj.core, List.getD, hi]
    rw [e1, e2] at g
    simp only [List.getElem_map, List.getElem_zipWith]
    exact frz_row k g
theorem frz_copied {o : Obj} {H H' : Hp} {nx n : Nat} {r : AV} (k : Nat) (h : OCopied o H nx r H' n) : Abs.frz H' (k + 6) r = if o.cores = [] then .agg [.im 1 .any (o.mem.map i64), i64 o.shared, i64 o.locks, i64 o.buffer, .sc (.slice none 0 0)] else o.av := by
  obtain ⟨mb, v, rfl, _, _, ⟨d1, h1⟩, _, h2⟩ := h
  rcases h2 with ⟨h3, rfl⟩ | ⟨cb, B, d, es, rfl, h0, _, _, h4, hes, hB, _, _⟩
  · rw [if_pos h3]
    simp only [Abs.frz, List.map_cons, List.map_nil, frz_sc, h1]
    rw [if_pos (by simp), frz_same (k + 4) (by simp [fitL_map, fitA])]
  · rw [if_neg (fun h => by rw [h] at h0; exact absurd h0 (by simp))]
    have hl : es.length = o.cores.length := by rw [hes]; simp [hB.len]
    show AV.agg [Abs.frz H' (k + 5) (.sl mb _), Abs.frz H' (k + 5) (i64 _), Abs.frz H' (k + 5) (i64 _), Abs.frz H' (k + 5) (i64 _), Abs.frz H' (k + 5) (.sl cb _)] = _
    rw [frz_sl h1 (by simp), frz_sl h4 hl, hes, frz_rows (k + 1) hB, frz_same (k + 4) (by simp [fitL_map, fitA]), frz_sc, frz_sc, frz_sc]
    rfl
theorem ocopy_pure (o : Obj) (ho : o.Wf) : Pure Try.prog 30 [o.av] (fun r => r = o.av) := by
  have h := pure_of_call (u := if o.cores = [] then .agg [.im 1 .any (o.mem.map i64), i64 o.shared, i64 o.locks, i64 o.buffer, .sc (.slice none 0 0)] else o.av) ((ocopy_call o ho (H := []) (nx := 0)).mono fun r H n hr => frz_copied 0 hr) (by split <;> simp [fitA, fitL, fitL_map])
  refine weak_pure h (by simp [fitA]) fun c => ?_
  by_cases hc : o.cores = []
  · rw [if_pos hc, Obj.av, Obj.cells, hc]
    exact AVle.agg (.cons (fun _ h => h) (.cons (fun _ h => h) (.cons (fun _ h => h) (.cons (fun _ h => h) (.cons (AVle.nilIm _ _ _ _) .nil)))))
  · rw [if_neg hc]; exact fun _ h => h
theorem ba_self (s : ByteArray) : (s != s) = false := by
  obtain ⟨a⟩ := s
  show (!(a == a)) = false
  simp
end Go.Proofs.Ytliabecchkolgaa
