/- A state of its own. -/
import Derived.Test.YtliabecchkolgaaGreatWc
import Derived.Test.YtliabecchkolgaaGreatVfork
namespace Go.Proofs.YtliabecchkolgaaGreat
open Go Go.Abs Go.Proofs
set_option linter.unusedSimpArgs false
set_option linter.unusedVariables false
structure RLay where
  c : Nat
  mem : Nat
  pr : Nat
  bufs : List Nat
def RLay.ids (K : RLay) : List Nat := K.c :: K.mem :: K.pr :: K.bufs
abbrev copyAv (o : Obj) (s : Mach) (K : RLay) : AV := .agg [.im 1 .any (o.mem.map i64), i64 o.shared, i64 o.locks, i64 o.buffer, .im 2 .any (o.cores.map Core.av), .sl K.c s.cores.length, .sl K.mem s.mem.length, .sl K.pr s.prints.length]
structure RAt (s : Mach) (K : RLay) (H : Hp) (lo n : Nat) : Prop where
  c : ∃ d, getH H K.c = some (.row 81 19 d (mixed s K.bufs))
  mem : ∃ d, getH H K.mem = some (.row 2 1 d (s.mem.map i64))
  pr : ∃ d, getH H K.pr = some (.row 105 2 d (s.prints.map PrintS.av))
  bufs : ∀ i, i < s.cores.length → ∃ d, getH H (K.bufs.getD i 0) = some (.row 97 3 d ((s.core i).buf.map StoreS.av))
  lens : K.bufs.length = s.cores.length
  lt : ∀ b ∈ K.ids, lo ≤ b ∧ b < n
  nodup : K.ids.Nodup
/-- The first cores are copied. -/
structure Part (s : Mach) (H : Hp) (B : List Nat) (i lo n : Nat) : Prop where
  len : B.length = i
  new : ∀ j, j < i → lo ≤ B.getD j 0 ∧ B.getD j 0 < n ∧ ∃ d, getH H (B.getD j 0) = some (.row 97 3 d ((s.core j).buf.map StoreS.av))
  apart : ∀ j k, j < k → k < i → B.getD j 0 ≠ B.getD k 0
theorem Part.next {s : Mach} {H H' : Hp} {B : List Nat} {i lo n n' b : Nat} (h : Part s H B i lo n) (hb : n ≤ b ∧ b < n') (hlo : lo ≤ n) (hr : ∃ d, getH H' b = some (.row 97 3 d ((s.core i).buf.map StoreS.av))) (hf : ∀ x, lo ≤ x → x < n → x ∈ B → getH H' x = getH H x) : Part s H' (B ++ [b]) (i + 1) lo n' := by
  have same : (B ++ [b]).getD i 0 = b := by simp [List.getD, ← h.len]
  have ne : ∀ j, j < i → (B ++ [b]).getD j 0 = B.getD j 0 := fun j hj => by simp [List.getD, List.getElem?_append, h.len, hj]
  refine ⟨by simp [h.len], fun j h1 => ?_, fun j k h1 h2 => ?_⟩
  · by_cases hj : j = i
    · subst hj; rw [same]; exact ⟨by omega, by omega, hr⟩
    · obtain ⟨g1, g2, d, g3⟩ := h.new j (by omega)
      rw [ne j (by omega)]
      exact ⟨g1, by omega, d, (hf _ g1 g2 (getD_mem (by rw [h.len]; omega))).trans g3⟩
  · by_cases hk : k = i
    · subst hk
      rw [same, ne j (by omega)]
      have := (h.new j (by omega)).2.1
      omega
    · rw [ne k (by omega), ne j (by omega)]
      exact h.apart j k h1 (by omega)
theorem zip_next {s : Mach} {B : List Nat} {i : Nat} (hB : B.length = i) (hi : i < s.cores.length) (b : Nat) : List.zipWith CoreS.av (s.cores.take (i + 1)) (B ++ [b]) = List.zipWith CoreS.av (s.cores.take i) B ++ [(s.core i).av b] := by
  rw [List.take_succ_eq_append_getElem hi, List.zipWith_append (by rw [List.length_take, hB]; omega)]
  simp [List.getD, hi]
def Copied (o : Obj) (s : Mach) (H : Hp) (nx : Nat) : AV → Hp → Nat → Prop := fun r H' n => ∃ K, r = copyAv o s K ∧ RAt s K H' nx n ∧ nx ≤ n ∧ ∀ b, b < nx → getH H' b = getH H b
set_option maxHeartbeats 4000000 in
theorem copy_call (o : Obj) {s : Mach} (h : Lookable s) (h0 : 0 < s.cores.length) {H : Hp} {nx : Nat} : CallN Tryz.prog 50 [stAv o s] H nx (Copied o s H nx) := by
  refine Go.fn Tryz.func50 nm50 low50 res50 nt50 rfl ?_
  have hc8 := h.cores
  have hm := h.mem
  have hp := h.prints
  repeat' (first
    | ((with_reducible refine Go.red ?_); conv => whnf)
    | (with_reducible refine Go.and ?_ ?_)
    | (with_reducible exact True.intro)
    | (with_reducible refine Go.far ?_)
    | ((with_reducible refine Apt.mk ?_); (try dsimp only); omega)
    | ((with_reducible refine Ask.mk ?_); first | exact aAsk | exact aAsk2)
    | ((with_reducible refine Go.ari64 ?_ ?_ ?_); (· exact aBnd); (· exact aBnd))
    | ((with_reducible refine Go.ariu8 ?_ ?_ ?_); (· exact aBnd); (· exact aBnd))
    | (with_reducible refine Go.ari0 ?_)
    | (apply Go.elem; (· exact aElem))
    | (apply Go.row; (· exact aRow))
    | (apply Go.gives; (· exact aGives))
    | (apply Go.gives; (· exact aRes))
    | (with_reducible refine Go.unroll ?_)
    | (refine Go.gt rfl ?_)
    | (refine Go.gf rfl ?_)
    | (with_reducible refine Go.join ?_)
    | (refine Go.lt' rfl ?_)
    | (refine Go.lf' rfl ?_)
    | ((with_reducible refine Go.bool ?_ ?_) <;> intro hc <;> (try simp only [List.length_map, ne_eq, hcs] at hc) <;> try (exfalso; omega))
    | ((with_reducible refine Res.eq ?_ ?_); (· exact aFit)))
  refine Go.loop (fun p : Nat × AV => [(1, .pt nx 1 0 0), (2, .pt (nx + 1) 1 0 0), (3, p.2), (4, i64 p.1)]) (fun p H9 n9 => p.1 ≤ s.cores.length ∧ nx + 16 ≤ n9 ∧ (∃ d, getH H9 nx = some (.row 39 8 d [.agg [.im 1 .any (o.mem.map i64), i64 o.shared, i64 o.locks, i64 o.buffer, .im 2 .any (o.cores.map Core.av), .im 19 .any (s.cores.map CoreS.frozen), .sl (nx + 2) (0 + (s.mem.map i64).length), .sl (nx + 8) (0 + (s.prints.map PrintS.av).length)]])) ∧
      (∃ d e, getH H9 (nx + 1) = some (.row 39 8 d [.agg e]) ∧ e.length = 8) ∧ (∃ d, getH H9 (nx + 2) = some (.row 2 1 d (s.mem.map i64))) ∧ (∃ d, getH H9 (nx + 8) = some (.row 105 2 d (s.prints.map PrintS.av))) ∧ (∀ b, b < nx → getH H9 b = getH H b) ∧
      ((p.1 = 0 ∧ p.2 = .sc (.slice none 0 0)) ∨ ∃ cb B d es, 0 < p.1 ∧ p.2 = .sl cb p.1 ∧ nx + 16 ≤ cb ∧ cb < n9 ∧ getH H9 cb = some (.row 81 19 d es) ∧ es = List.zipWith CoreS.av (s.cores.take p.1) B ∧ Part s H9 B p.1 (nx + 16) n9 ∧ cb ∉ B))
    (fun p => s.cores.length - p.1) (0, .sc (.slice none 0 0)) aLess ⟨Nat.zero_le _, aNx, ⟨_, aRow⟩, ⟨_, _, aRow, rfl⟩, ⟨_, aRow⟩, ⟨_, aRow⟩, fun b hb => aSkip, .inl ⟨rfl, rfl⟩⟩ ?_
  rintro ⟨i, v⟩ H9 n9 ⟨hi, hn, ⟨d1, r1⟩, ⟨d2, e2, r2, he2⟩, ⟨d3, r3⟩, ⟨d4, r4⟩, hfr, hv⟩
  simp only at hi hv
  dsimp only
  rcases hv with ⟨rfl, rfl⟩ | ⟨cb, B, d5, es, hi0, rfl, hcb1, hcb2, rcb, hes, hB, hcbB⟩
  · have hb0 := h.buf 0 h0
    repeat' (first
        | ((with_reducible refine Go.red ?_); conv => whnf)
        | (with_reducible refine Go.and ?_ ?_)
        | (with_reducible exact True.intro)
        | (with_reducible refine Go.far ?_)
        | ((with_reducible refine Apt.mk ?_); (try dsimp only); omega)
        | ((with_reducible refine Ask.mk ?_); first | exact aAsk | exact aAsk2)
        | ((with_reducible refine Go.ari64 ?_ ?_ ?_); (· exact aBnd); (· exact aBnd))
        | ((with_reducible refine Go.ariu8 ?_ ?_ ?_); (· exact aBnd); (· exact aBnd))
        | (with_reducible refine Go.ari0 ?_)
        | (apply Go.elem; (· (first | exact frozen_at h0 _ | exact aElem)))
        | (apply Go.row; (· exact aRow))
        | (apply Go.gives; (· exact aGives))
        | (apply Go.gives; (· exact aRes))
        | (with_reducible refine Go.unroll ?_)
        | (refine Go.gt rfl ?_)
        | (refine Go.gf rfl ?_)
        | (with_reducible refine Go.join ?_)
        | (refine Go.lt' rfl ?_)
        | (refine Go.lf' rfl ?_)
        | ((with_reducible refine Go.bool ?_ ?_) <;> intro hc <;> (try simp only [List.length_map, ne_eq, hcs] at hc) <;> try (exfalso; omega))
        | ((with_reducible refine Res.eq ?_ ?_); (· exact aFit)))
    refine ⟨(1, .sl (n9 + 21) 1), by show s.cores.length - 1 < s.cores.length - 0; omega, aLess, by show 1 ≤ s.cores.length; omega, aNx, ⟨_, aRow⟩, ⟨_, _, aRow, he2⟩, ⟨_, aRow⟩, ⟨_, aRow⟩, fun b hb => (aSkip : _ = getH H9 b).trans (hfr b hb), .inr ⟨n9 + 21, [n9 + 12], _, _, by show 0 < 1; omega, rfl, by omega, aNx, aRow, ?_, ?_, by simp⟩⟩
    · show _ = List.zipWith CoreS.av (s.cores.take (0 + 1)) ([] ++ [n9 + 12])
      rw [zip_next (B := []) (i := 0) rfl h0]
      simp [CoreS.cells]
    · exact Part.next (B := []) (i := 0) (⟨rfl, fun j hj => by omega, fun j k _ hk => by omega⟩ : Part s H9 [] 0 (nx + 16) n9) ⟨aNx, aNx⟩ hn ⟨_, aRow⟩ (fun x _ _ hx => by simp at hx)
  · by_cases hi2 : i < s.cores.length
    · have hbi := h.buf i hi2
      have hel : es.length = i := by rw [hes]; simp [hB.len]; omega
      repeat' (first
          | ((with_reducible refine Go.red ?_); conv => whnf)
          | (with_reducible refine Go.and ?_ ?_)
          | (with_reducible exact True.intro)
          | (with_reducible refine Go.far ?_)
          | ((with_reducible refine Apt.mk ?_); (try dsimp only); omega)
          | ((with_reducible refine Ask.mk ?_); first | exact aAsk | exact aAsk2)
          | ((with_reducible refine Go.ari64 ?_ ?_ ?_); (· exact aBnd); (· exact aBnd))
          | ((with_reducible refine Go.ariu8 ?_ ?_ ?_); (· exact aBnd); (· exact aBnd))
          | (with_reducible refine Go.ari0 ?_)
          | (apply Go.elem; (· (first | exact frozen_at hi2 _ | exact aElem)))
          | (apply Go.row; (· exact aRow))
          | (apply Go.gives; (· exact aGives))
          | (apply Go.gives; (· exact aRes))
          | (with_reducible refine Go.unroll ?_)
          | (refine Go.gt rfl ?_)
          | (refine Go.gf rfl ?_)
          | (with_reducible refine Go.join ?_)
          | (refine Go.lt' rfl ?_)
          | (refine Go.lf' rfl ?_)
          | ((with_reducible refine Go.bool ?_ ?_) <;> intro hc <;> (try simp only [List.length_map, ne_eq, hcs] at hc) <;> try (exfalso; omega))
          | ((with_reducible refine Res.eq ?_ ?_); (· exact aFit)))
      refine ⟨(i + 1, .sl cb (i + 1)), by show s.cores.length - (i + 1) < s.cores.length - i; omega, aLess, by show i + 1 ≤ s.cores.length; omega, aNx, ⟨_, aRow⟩, ⟨_, _, aRow, he2⟩, ⟨_, aRow⟩, ⟨_, aRow⟩, fun b hb => (aSkip : _ = getH H9 b).trans (hfr b hb), .inr ⟨cb, B ++ [n9 + 12], _, _, by show 0 < i + 1; omega, rfl, hcb1, by exact Nat.lt_of_lt_of_le hcb2 aNx, aRow, ?_, ?_, ?_⟩⟩
      · show _ = List.zipWith CoreS.av (s.cores.take (i + 1)) (B ++ [n9 + 12])
        rw [zip_next hB.len hi2, ← hes]
        congr 1
        simp [CoreS.cells]
      · exact hB.next ⟨aNx, aNx⟩ hn ⟨_, aRow⟩ (fun x h1 h2 h3 => by have h4 : x ≠ cb := fun he => hcbB (he ▸ h3); exact aSkip)
      · simp only [List.mem_append, List.mem_singleton, not_or]
        exact ⟨hcbB, by omega⟩
    · repeat' (first
          | ((with_reducible refine Go.red ?_); conv => whnf)
          | (with_reducible refine Go.and ?_ ?_)
          | (with_reducible exact True.intro)
          | (with_reducible refine Go.far ?_)
          | ((with_reducible refine Apt.mk ?_); (try dsimp only); omega)
          | ((with_reducible refine Ask.mk ?_); first | exact aAsk | exact aAsk2)
          | ((with_reducible refine Go.ari64 ?_ ?_ ?_); (· exact aBnd); (· exact aBnd))
          | ((with_reducible refine Go.ariu8 ?_ ?_ ?_); (· exact aBnd); (· exact aBnd))
          | (with_reducible refine Go.ari0 ?_)
          | (apply Go.elem; (· exact aElem))
          | (apply Go.row; (· exact aRow))
          | (apply Go.gives; (· exact aGives))
          | (apply Go.gives; (· exact aRes))
          | (with_reducible refine Go.unroll ?_)
          | (refine Go.gt rfl ?_)
          | (refine Go.gf rfl ?_)
          | (with_reducible refine Go.join ?_)
          | (refine Go.lt' rfl ?_)
          | (refine Go.lf' rfl ?_)
          | ((with_reducible refine Go.bool ?_ ?_) <;> intro hc <;> (try simp only [List.length_map, ne_eq, hcs] at hc) <;> try (exfalso; omega))
          | ((with_reducible refine Res.eq ?_ ?_); (· exact aFit)))
      have hin : i = s.cores.length := by omega
      subst hin
      have ht : s.cores.take s.cores.length = s.cores := List.take_of_length_le (Nat.le_refl _)
      rw [ht] at hes
      have rcb2 : getH H9 cb = some (.row 81 19 d5 (mixed s B)) := by rw [rcb, hes]
      clear rcb
      refine ⟨⟨⟨cb, nx + 2, nx + 8, B⟩, ?_, ⟨⟨d5, aRow⟩, ⟨_, aRow⟩, ⟨_, aRow⟩, fun j hj => ?_, hB.len, fun b hb => ?_, ?_⟩, aNx, fun b hb => (aSkip : _ = getH H9 b).trans (hfr b hb)⟩⟩
      · simp [copyAv]
      · obtain ⟨g1, g2, d, g3⟩ := hB.new j hj
        have h4 : B.getD j 0 ≠ cb := fun he => hcbB (he ▸ getD_mem (by rw [hB.len]; exact hj))
        exact ⟨d, (aSkip : _ = getH H9 _).trans g3⟩
      · simp only [RLay.ids, List.mem_cons] at hb
        rcases hb with rfl | rfl | rfl | hb
        · exact ⟨by omega, Nat.lt_of_lt_of_le hcb2 aNx⟩
        · exact ⟨by omega, aNx⟩
        · exact ⟨by omega, aNx⟩
        · obtain ⟨j, hj, rfl⟩ := List.mem_iff_getElem.1 hb
          obtain ⟨g1, g2, _⟩ := hB.new j (by rw [← hB.len]; exact hj)
          have e : B.getD j 0 = B[j] := by simp [List.getD, hj]
          rw [e] at g1 g2
          exact ⟨by omega, Nat.lt_of_lt_of_le g2 aNx⟩
      · have hmB : ∀ x ∈ B, nx + 16 ≤ x := fun x hx => by
          obtain ⟨j, hj, rfl⟩ := List.mem_iff_getElem.1 hx
          have g1 := (hB.new j (by rw [← hB.len]; exact hj)).1
          have e : B.getD j 0 = B[j] := by simp [List.getD, hj]
          rw [e] at g1; exact g1
        simp only [RLay.ids, List.nodup_cons, List.mem_cons, not_or]
        refine ⟨⟨by omega, by omega, hcbB⟩, ⟨by omega, fun hm => by have := hmB _ hm; omega⟩, fun hm => by have := hmB _ hm; omega, List.pairwise_iff_getElem.2 fun j k hj hk hjk => ?_⟩
        have := hB.apart j k hjk (by rw [← hB.len]; exact hk)
        simpa [List.getD, hj, hk] using this
end Go.Proofs.YtliabecchkolgaaGreat
