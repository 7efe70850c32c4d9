/- A fork of a machine. -/
import Derived.Test.YtliabecchkolgaaVu
namespace Go.Proofs.Ytliabecchkolgaa
open Go Go.Abs Go.Proofs
set_option linter.unusedSimpArgs false
set_option linter.unusedVariables false
theorem clone_cores_im {es : List AV} (hsz : es.length * 168 ≤ 140737488355328) : CallN Try.prog 45 [.im 19 .any es] [] 0 (Cloned [] 0 98 19 es) := by
  refine Cloned.of (by omega) ?_
  refine Go.fn Try.func45 nm45 low45 res45 nt45 rfl ?_
  cases hes : es with
  | nil =>
    repeat' (first
        | ((with_reducible refine Go.red ?_); conv => whnf)
        | (with_reducible refine Go.and ?_ ?_)
        | (with_reducible exact True.intro)
        | (with_reducible refine Go.far ?_)
        | ((with_reducible refine Apt.mk ?_); (try dsimp only); omega)
        | ((with_reducible refine Ask.mk ?_); first | exact aAsk | exact aAsk2)
        | ((with_reducible refine Go.ari64 ?_ ?_ ?_); (· exact aBnd); (· exact aBnd))
        | ((with_reducible refine Go.ariu8 ?_ ?_ ?_); (· exact aBnd); (· exact aBnd))
        | (with_reducible refine Go.ari0 ?_)
        | (apply Go.elem; (· exact aElem))
        | (apply Go.row; (· exact aRow))
        | (apply Go.gives; (· exact aGives))
        | (apply Go.gives; (· exact aRes))
        | (with_reducible refine Go.unroll ?_)
        | (with_reducible refine Go.drawn ?_)
        | (refine Go.gt rfl ?_)
        | (refine Go.gf rfl ?_)
        | (with_reducible refine Go.join ?_)
        | (refine Go.lt' rfl ?_)
        | (refine Go.lf' rfl ?_)
        | ((with_reducible refine Go.bool ?_ ?_) <;> intro hc <;> (try simp only [List.length_map, ne_eq, hcs] at hc) <;> try (exfalso; omega))
        | ((with_reducible refine Res.eq ?_ ?_); (· exact aFit)))
    · exact ⟨.inl ⟨rfl, rfl, aNx, aKeep⟩⟩
    · exact ⟨.inr ⟨_, _, rfl, aNx, aNx, aNx, aRow, aKeep⟩⟩
  | cons x t =>
    rw [hes] at hsz
    simp only [List.length_cons] at hsz
    repeat' (first
        | ((with_reducible refine Go.red ?_); conv => whnf)
        | (with_reducible refine Go.and ?_ ?_)
        | (with_reducible exact True.intro)
        | (with_reducible refine Go.far ?_)
        | ((with_reducible refine Apt.mk ?_); (try dsimp only); omega)
        | ((with_reducible refine Ask.mk ?_); first | exact aAsk | exact aAsk2)
        | ((with_reducible refine Go.ari64 ?_ ?_ ?_); (· exact aBnd); (· exact aBnd))
        | ((with_reducible refine Go.ariu8 ?_ ?_ ?_); (· exact aBnd); (· exact aBnd))
        | (with_reducible refine Go.ari0 ?_)
        | (apply Go.elem; (· exact aElem))
        | (apply Go.row; (· exact aRow))
        | (apply Go.gives; (· exact aGives))
        | (apply Go.gives; (· exact aRes))
        | (with_reducible refine Go.unroll ?_)
        | (with_reducible refine Go.drawn ?_)
        | (refine Go.gt rfl ?_)
        | (refine Go.gf rfl ?_)
        | (with_reducible refine Go.join ?_)
        | (refine Go.lt' rfl ?_)
        | (refine Go.lf' rfl ?_)
        | ((with_reducible refine Go.bool ?_ ?_) <;> intro hc <;> (try simp only [List.length_map, ne_eq, hcs] at hc) <;> try (exfalso; omega))
        | ((with_reducible refine Res.eq ?_ ?_); (· exact aFit)))
    · exact ⟨.inr ⟨3, _, (by simp), aNx, aNx, aNx, aRow, aKeep⟩⟩
theorem clone_cores_mk {es : List AV} (hsz : es.length * 168 ≤ 140737488355328) : CallN Try.prog 45 [.im 19 .any es] [] 0 (fun r1 H1 _ => ∃ b d0, r1 = .sl b es.length ∧ getH H1 b = some (.row 98 19 d0 es)) :=
  (clone_cores_im hsz).mono fun r H n ⟨b, d, h1, _, _, _, h2, _⟩ => ⟨b, d, h1, h2⟩
/-- Two machines that share no row. -/
def Far (A B : Lay) : Prop := ∀ b ∈ A.ids, b ∉ B.ids
theorem Far.symm {A B : Lay} (h : Far A B) : Far B A := fun b hb hm => h b hm hb
theorem Far.moves {A A' B : Lay} {n : Nat} (h : Far A B) (hm : ∀ b, b ∈ A'.ids → b ∈ A.ids ∨ n ≤ b) (hl : ∀ b ∈ B.ids, b < n) : Far A' B := fun b hb hB => (hm b hb).elim (fun h1 => h b h1 hB) (fun h1 => by have := hl b hB; omega)
theorem MAt.beside {o : Obj} {s : Mach} {A B : Lay} {H H' : Hp} {n n' : Nat} (h : MAt o s B H n) (hf : Far A B) (hfr : ∀ b, b < n → b ∉ A.ids → getH H' b = getH H b) (hn : n ≤ n') : MAt o s B H' n' := h.keepIds (fun b hb => hfr b (h.lt b hb) (fun ha => hf b ha hb)) hn
abbrev mixed (s : Mach) (B : List Nat) : List AV := List.zipWith CoreS.av s.cores B
theorem mixed_len {s : Mach} {B : List Nat} (h : B.length = s.cores.length) : (mixed s B).length = s.cores.length := by simp [mixed, h]
theorem mixed_at {s : Mach} {B : List Nat} (h : B.length = s.cores.length) {q : Nat} (hq : q < s.cores.length) (d : AV) : (mixed s B).getD q d = (s.core q).av (B.getD q 0) := by
  have h2 : q < B.length := by rw [h]; exact hq
  have h3 : q < (mixed s B).length := by rw [mixed_len h]; exact hq
  rw [List.getD, List.getElem?_eq_getElem h3]
  simp [mixed, List.getD, hq, h2]
theorem mixed_set {s : Mach} {B : List Nat} {q : Nat} (h : B.length = s.cores.length) (hq : q < s.cores.length) (b : Nat) : mixed s (B.set q b) = (mixed s B).set q ((s.core q).av b) := by
  apply List.ext_getElem
  · simp [mixed]
  · intro i h1 h2
    simp only [mixed, List.getElem_zipWith, List.getElem_set]
    by_cases he : q = i
    · subst he; simp [List.getD, hq]
    · simp [he]
structure Mixed (L : Lay) (s : Mach) (H : Hp) (B : List Nat) (i lo n : Nat) : Prop where
  len : B.length = s.cores.length
  old : ∀ j, i ≤ j → j < s.cores.length → B.getD j 0 = L.bufs.getD j 0
  new : ∀ j, j < i → j < s.cores.length → lo ≤ B.getD j 0 ∧ B.getD j 0 < n ∧ ∃ d, getH H (B.getD j 0) = some (.row 51 3 d ((s.core j).buf.map StoreS.av))
  apart : ∀ j k, j < k → k < i → k < s.cores.length → B.getD j 0 ≠ B.getD k 0
theorem Mixed.next {L : Lay} {s : Mach} {H H' : Hp} {B : List Nat} {i lo n n' b : Nat} (h : Mixed L s H B i lo n) (hi : i < s.cores.length) (hb : n ≤ b ∧ b < n') (hlo : lo ≤ n) (hr : ∃ d, getH H' b = some (.row 51 3 d ((s.core i).buf.map StoreS.av))) (hf : ∀ x, lo ≤ x → x < n → getH H' x = getH H x) : Mixed L s H' (B.set i b) (i + 1) lo n' := by
  have hib : i < B.length := by rw [h.len]; exact hi
  have same : (B.set i b).getD i 0 = b := by simp [List.getD, hib]
  have ne : ∀ j, j ≠ i → (B.set i b).getD j 0 = B.getD j 0 := fun j hj => by simp [List.getD, List.getElem?_set_ne (Ne.symm hj)]
  refine ⟨by rw [List.length_set]; exact h.len, fun j h1 h2 => by rw [ne j (by omega)]; exact h.old j (by omega) h2, fun j h1 h2 => ?_, fun j k h1 h2 h3 => ?_⟩
  · by_cases hj : j = i
    · subst hj; rw [same]; exact ⟨by omega, by omega, hr⟩
    · obtain ⟨g1, g2, d, g3⟩ := h.new j (by omega) h2
      rw [ne j hj]
      exact ⟨g1, by omega, d, (hf _ g1 g2).trans g3⟩
  · by_cases hk : k = i
    · subst hk
      rw [same, ne j (by omega)]
      have := (h.new j (by omega) (by omega)).2.1
      omega
    · rw [ne k hk, ne j (by omega)]
      exact h.apart j k h1 (by omega) h3
theorem Mixed.keep {L : Lay} {s : Mach} {H H' : Hp} {B : List Nat} {i lo n n' : Nat} (h : Mixed L s H B i lo n) (hn : n ≤ n') (hf : ∀ x, lo ≤ x → x < n → getH H' x = getH H x) : Mixed L s H' B i lo n' :=
  ⟨h.len, h.old, fun j h1 h2 => by obtain ⟨g1, g2, d, g3⟩ := h.new j h1 h2; exact ⟨g1, by omega, d, (hf _ g1 g2).trans g3⟩, h.apart⟩
theorem Mixed.mem {L : Lay} {s : Mach} {H : Hp} {B : List Nat} {i lo n : Nat} (h : Mixed L s H B i lo n) (hi : s.cores.length ≤ i) {b : Nat} (hb : b ∈ B) : lo ≤ b ∧ b < n := by
  obtain ⟨j, hj, rfl⟩ := List.mem_iff_getElem.1 hb
  have hj2 : j < s.cores.length := by rw [← h.len]; exact hj
  obtain ⟨g1, g2, _⟩ := h.new j (by omega) hj2
  have e : B.getD j 0 = B[j] := by simp [List.getD, hj]
  rw [e] at g1 g2
  exact ⟨g1, g2⟩
theorem Mixed.nodup {L : Lay} {s : Mach} {H : Hp} {B : List Nat} {i lo n : Nat} (h : Mixed L s H B i lo n) (hi : s.cores.length ≤ i) : B.Nodup := by
  refine List.pairwise_iff_getElem.2 fun j k hj hk hjk => ?_
  have hk2 : k < s.cores.length := by rw [← h.len]; exact hk
  have := h.apart j k hjk (by omega) hk2
  simpa [List.getD, hj, hk] using this
def Forked (o : Obj) (s : Mach) (H : Hp) (nx : Nat) : AV → Hp → Nat → Prop := fun r H' n => ∃ L, r = .pt L.m 1 0 0 ∧ MAt o s L H' n ∧ (∀ b ∈ L.ids, nx ≤ b) ∧ nx ≤ n ∧ ∀ b, b < nx → getH H' b = getH H b
set_option maxHeartbeats 4000000 in
theorem fork_call {o : Obj} {s : Mach} {L : Lay} {H : Hp} {nx : Nat} (h : MAt o s L H nx) (g : Good o s) (ok : ObjOk o) (hpl : s.prints.length * 16 ≤ 140737488355328) : CallN Try.prog 25 [.pt L.m 1 0 0] H nx (Forked o s H nx) := by
  refine Go.fn Try.func25 nm25 low25 res25 nt25 rfl ?_
  obtain ⟨dm, rm⟩ := h.m
  obtain ⟨dc, rc⟩ := h.c
  obtain ⟨dmem, rmem⟩ := h.mem
  obtain ⟨dpr, rpr⟩ := h.pr
  have hel := rows_len h
  have hlt := h.lt
  have l1 : L.m < nx := hlt _ (by simp [Lay.ids])
  have l2 : L.c < nx := hlt _ (by simp [Lay.ids])
  have l3 : L.mem < nx := hlt _ (by simp [Lay.ids])
  have l4 : L.pr < nx := hlt _ (by simp [Lay.ids])
  have hc8 := ok.cores
  have hm4 := ok.mem
  have hn := g.n
  have hgm := g.mem
  repeat' (first
    | ((with_reducible refine Go.red ?_); conv => whnf)
    | (with_reducible refine Go.and ?_ ?_)
    | (with_reducible exact True.intro)
    | (with_reducible refine Go.far ?_)
    | ((with_reducible refine Apt.mk ?_); (try dsimp only); omega)
    | ((with_reducible refine Ask.mk ?_); first | exact aAsk | exact aAsk2)
    | ((with_reducible refine Go.ari64 ?_ ?_ ?_); (· exact aBnd); (· exact aBnd))
    | ((with_reducible refine Go.ariu8 ?_ ?_ ?_); (· exact aBnd); (· exact aBnd))
    | (with_reducible refine Go.ari0 ?_)
    | (apply Go.elem; (· exact aElem))
    | (apply Go.row; (· exact aRow))
    | (apply Go.gives; (· exact aGives))
    | (apply Go.gives; (· exact aRes))
    | (with_reducible refine Go.unroll ?_)
    | (with_reducible refine Go.drawn ?_)
    | (refine Go.gt rfl ?_)
    | (refine Go.gf rfl ?_)
    | (with_reducible refine Go.join ?_)
    | (refine Go.lt' rfl ?_)
    | (refine Go.lf' rfl ?_)
    | ((with_reducible refine Go.bool ?_ ?_) <;> intro hc <;> (try simp only [List.length_map, ne_eq, hcs] at hc) <;> try (exfalso; omega))
    | ((with_reducible refine Res.eq ?_ ?_); (· exact aFit)))
  refine Go.cloneE .any (fun es' he => clone_cores_mk (by omega)) aRow hel ?_
  repeat' (first
    | ((with_reducible refine Go.red ?_); conv => whnf)
    | (with_reducible refine Go.and ?_ ?_)
    | (with_reducible exact True.intro)
    | (with_reducible refine Go.far ?_)
    | ((with_reducible refine Apt.mk ?_); (try dsimp only); omega)
    | ((with_reducible refine Ask.mk ?_); first | exact aAsk | exact aAsk2)
    | ((with_reducible refine Go.ari64 ?_ ?_ ?_); (· exact aBnd); (· exact aBnd))
    | ((with_reducible refine Go.ariu8 ?_ ?_ ?_); (· exact aBnd); (· exact aBnd))
    | (with_reducible refine Go.ari0 ?_)
    | (apply Go.elem; (· exact aElem))
    | (apply Go.row; (· exact aRow))
    | (apply Go.gives; (· exact aGives))
    | (apply Go.gives; (· exact aRes))
    | (with_reducible refine Go.unroll ?_)
    | (with_reducible refine Go.drawn ?_)
    | (refine Go.gt rfl ?_)
    | (refine Go.gf rfl ?_)
    | (with_reducible refine Go.join ?_)
    | (refine Go.lt' rfl ?_)
    | (refine Go.lf' rfl ?_)
    | ((with_reducible refine Go.bool ?_ ?_) <;> intro hc <;> (try simp only [List.length_map, ne_eq, hcs] at hc) <;> try (exfalso; omega))
    | ((with_reducible refine Res.eq ?_ ?_); (· exact aFit)))
  refine Go.cloneE .any (fun es' he => clone_words_mk (by omega)) aRow (List.length_map _) ?_
  repeat' (first
    | ((with_reducible refine Go.red ?_); conv => whnf)
    | (with_reducible refine Go.and ?_ ?_)
    | (with_reducible exact True.intro)
    | (with_reducible refine Go.far ?_)
    | ((with_reducible refine Apt.mk ?_); (try dsimp only); omega)
    | ((with_reducible refine Ask.mk ?_); first | exact aAsk | exact aAsk2)
    | ((with_reducible refine Go.ari64 ?_ ?_ ?_); (· exact aBnd); (· exact aBnd))
    | ((with_reducible refine Go.ariu8 ?_ ?_ ?_); (· exact aBnd); (· exact aBnd))
    | (with_reducible refine Go.ari0 ?_)
    | (apply Go.elem; (· exact aElem))
    | (apply Go.row; (· exact aRow))
    | (apply Go.gives; (· exact aGives))
    | (apply Go.gives; (· exact aRes))
    | (with_reducible refine Go.unroll ?_)
    | (with_reducible refine Go.drawn ?_)
    | (refine Go.gt rfl ?_)
    | (refine Go.gf rfl ?_)
    | (with_reducible refine Go.join ?_)
    | (refine Go.lt' rfl ?_)
    | (refine Go.lf' rfl ?_)
    | ((with_reducible refine Go.bool ?_ ?_) <;> intro hc <;> (try simp only [List.length_map, ne_eq, hcs] at hc) <;> try (exfalso; omega))
    | ((with_reducible refine Res.eq ?_ ?_); (· exact aFit)))
  refine Go.cloneE .any (fun es' he => clone_prints_mk (by omega)) aRow (List.length_map _) ?_
  repeat' (first
    | ((with_reducible refine Go.red ?_); conv => whnf)
    | (with_reducible refine Go.and ?_ ?_)
    | (with_reducible exact True.intro)
    | (with_reducible refine Go.far ?_)
    | ((with_reducible refine Apt.mk ?_); (try dsimp only); omega)
    | ((with_reducible refine Ask.mk ?_); first | exact aAsk | exact aAsk2)
    | ((with_reducible refine Go.ari64 ?_ ?_ ?_); (· exact aBnd); (· exact aBnd))
    | ((with_reducible refine Go.ariu8 ?_ ?_ ?_); (· exact aBnd); (· exact aBnd))
    | (with_reducible refine Go.ari0 ?_)
    | (apply Go.elem; (· exact aElem))
    | (apply Go.row; (· exact aRow))
    | (apply Go.gives; (· exact aGives))
    | (apply Go.gives; (· exact aRes))
    | (with_reducible refine Go.unroll ?_)
    | (with_reducible refine Go.drawn ?_)
    | (refine Go.gt rfl ?_)
    | (refine Go.gf rfl ?_)
    | (with_reducible refine Go.join ?_)
    | (refine Go.lt' rfl ?_)
    | (refine Go.lf' rfl ?_)
    | ((with_reducible refine Go.bool ?_ ?_) <;> intro hc <;> (try simp only [List.length_map, ne_eq, hcs] at hc) <;> try (exfalso; omega))
    | ((with_reducible refine Res.eq ?_ ?_); (· exact aFit)))
  refine Go.loop (fun i : Nat => [(3, .pt (nx + 23) 1 0 0), (32, i64 s.cores.length), (33, i64 i)]) (fun i H9 n9 => i ≤ s.cores.length ∧ nx + 31 ≤ n9 ∧ ∃ B, Mixed L s H9 B i (nx + 31) n9 ∧ (∃ d, getH H9 (nx + 23) = some (.row 103 8 d [.agg [.sc (.slice none 0 0), i64 o.shared, i64 o.locks, i64 o.buffer, .im 2 .any (o.cores.map Core.av), .sl (nx + 11) s.cores.length, .sl (nx + 16) s.mem.length, .sl (nx + 21) s.prints.length]])) ∧
    (∃ d, getH H9 (nx + 11) = some (.row 98 19 d (mixed s B))) ∧ (∃ d, getH H9 (nx + 16) = some (.row 2 1 d (s.mem.map i64))) ∧ (∃ d, getH H9 (nx + 21) = some (.row 75 2 d (s.prints.map PrintS.av))) ∧ ∀ b, b < nx → getH H9 b = getH H b)
    (fun i => s.cores.length - i) 0 aLess ⟨Nat.zero_le _, aNx, L.bufs, ⟨h.lens, fun j _ _ => rfl, fun j hj => by omega, fun j k _ hk => by omega⟩, ⟨_, aRow⟩, ⟨_, aRow⟩, ⟨_, aRow⟩, ⟨_, aRow⟩, fun b hb => aSkip⟩ ?_
  rintro i H9 n9 ⟨hi, hn9, B, hB, ⟨d1, r1⟩, ⟨d2, r2⟩, ⟨d3, r3⟩, ⟨d4, r4⟩, hfr⟩
  have hml := mixed_len hB.len
  by_cases hi2 : i < s.cores.length
  · obtain ⟨db, rb⟩ := h.bufs i hi2
    have hbl := (h.lts hi2).b
    have rb9 := (hfr _ hbl).trans rb
    have hold := hB.old i (Nat.le_refl _) hi2
    have hat := mixed_at hB.len hi2
    rw [hold] at hat
    have hbb := g.buf i hi2
    have hbu := ok.buffer
    clear rm rc rmem rpr rb
    repeat' (first
        | ((with_reducible refine Go.red ?_); conv => whnf)
        | (with_reducible refine Go.and ?_ ?_)
        | (with_reducible exact True.intro)
        | (with_reducible refine Go.far ?_)
        | ((with_reducible refine Apt.mk ?_); (try dsimp only); omega)
        | ((with_reducible refine Ask.mk ?_); first | exact aAsk | exact aAsk2)
        | ((with_reducible refine Go.ari64 ?_ ?_ ?_); (· exact aBnd); (· exact aBnd))
        | ((with_reducible refine Go.ariu8 ?_ ?_ ?_); (· exact aBnd); (· exact aBnd))
        | (with_reducible refine Go.ari0 ?_)
        | (apply Go.elem; (· (first | exact hat _ | exact aElem)))
        | (apply Go.row; (· exact aRow))
        | (apply Go.gives; (· exact aGives))
        | (apply Go.gives; (· exact aRes))
        | (with_reducible refine Go.unroll ?_)
        | (with_reducible refine Go.drawn ?_)
        | (refine Go.gt rfl ?_)
        | (refine Go.gf rfl ?_)
        | (with_reducible refine Go.join ?_)
        | (refine Go.lt' rfl ?_)
        | (refine Go.lf' rfl ?_)
        | ((with_reducible refine Go.bool ?_ ?_) <;> intro hc <;> (try simp only [List.length_map, ne_eq, hcs] at hc) <;> try (exfalso; omega))
        | ((with_reducible refine Res.eq ?_ ?_); (· exact aFit)))
    refine Go.cloneE .any (fun es' he => clone_stores_mk (by omega)) aRow (List.length_map _) ?_
    repeat' (first
        | ((with_reducible refine Go.red ?_); conv => whnf)
        | (with_reducible refine Go.and ?_ ?_)
        | (with_reducible exact True.intro)
        | (with_reducible refine Go.far ?_)
        | ((with_reducible refine Apt.mk ?_); (try dsimp only); omega)
        | ((with_reducible refine Ask.mk ?_); first | exact aAsk | exact aAsk2)
        | ((with_reducible refine Go.ari64 ?_ ?_ ?_); (· exact aBnd); (· exact aBnd))
        | ((with_reducible refine Go.ariu8 ?_ ?_ ?_); (· exact aBnd); (· exact aBnd))
        | (with_reducible refine Go.ari0 ?_)
        | (apply Go.elem; (· (first | exact hat _ | exact aElem)))
        | (apply Go.row; (· exact aRow))
        | (apply Go.gives; (· exact aGives))
        | (apply Go.gives; (· exact aRes))
        | (with_reducible refine Go.unroll ?_)
        | (with_reducible refine Go.drawn ?_)
        | (refine Go.gt rfl ?_)
        | (refine Go.gf rfl ?_)
        | (with_reducible refine Go.join ?_)
        | (refine Go.lt' rfl ?_)
        | (refine Go.lf' rfl ?_)
        | ((with_reducible refine Go.bool ?_ ?_) <;> intro hc <;> (try simp only [List.length_map, ne_eq, hcs] at hc) <;> try (exfalso; omega))
        | ((with_reducible refine Res.eq ?_ ?_); (· exact aFit)))
    exact ⟨i + 1, by omega, aLess, by omega, aNx, B.set i (n9 + 16), hB.next hi2 ⟨aNx, aNx⟩ hn9 ⟨_, aRow⟩ (fun x h1 h2 => aSkip), ⟨_, aRow⟩, ⟨_, (by rw [mixed_set hB.len hi2]; exact aRow)⟩, ⟨_, aRow⟩, ⟨_, aRow⟩, fun b hb => (aSkip : _ = getH H9 b).trans (hfr b hb)⟩
  · repeat' (first
        | ((with_reducible refine Go.red ?_); conv => whnf)
        | (with_reducible refine Go.and ?_ ?_)
        | (with_reducible exact True.intro)
        | (with_reducible refine Go.far ?_)
        | ((with_reducible refine Apt.mk ?_); (try dsimp only); omega)
        | ((with_reducible refine Ask.mk ?_); first | exact aAsk | exact aAsk2)
        | ((with_reducible refine Go.ari64 ?_ ?_ ?_); (· exact aBnd); (· exact aBnd))
        | ((with_reducible refine Go.ariu8 ?_ ?_ ?_); (· exact aBnd); (· exact aBnd))
        | (with_reducible refine Go.ari0 ?_)
        | (apply Go.elem; (· exact aElem))
        | (apply Go.row; (· exact aRow))
        | (apply Go.gives; (· exact aGives))
        | (apply Go.gives; (· exact aRes))
        | (with_reducible refine Go.unroll ?_)
        | (with_reducible refine Go.drawn ?_)
        | (refine Go.gt rfl ?_)
        | (refine Go.gf rfl ?_)
        | (with_reducible refine Go.join ?_)
        | (refine Go.lt' rfl ?_)
        | (refine Go.lf' rfl ?_)
        | ((with_reducible refine Go.bool ?_ ?_) <;> intro hc <;> (try simp only [List.length_map, ne_eq, hcs] at hc) <;> try (exfalso; omega))
        | ((with_reducible refine Res.eq ?_ ?_); (· exact aFit)))
    have hge : s.cores.length ≤ i := by omega
    refine ⟨⟨⟨nx + 23, nx + 11, nx + 16, nx + 21, B⟩, rfl, ⟨⟨_, aRow⟩, ⟨_, aRow⟩, ⟨_, aRow⟩, ⟨_, aRow⟩, fun j hj => ?_, hB.len, fun b hb => ?_, ?_⟩, fun b hb => ?_, aNx, fun b hb => (aSkip : _ = getH H9 b).trans (hfr b hb)⟩⟩
    · obtain ⟨g1, g2, d, g3⟩ := hB.new j (by omega) hj
      exact ⟨d, (aSkip : _ = getH H9 _).trans g3⟩
    · simp only [Lay.ids, List.mem_cons] at hb
      have hlast : n9 ≤ n9 + 3 := by omega
      rcases hb with rfl | rfl | rfl | rfl | hb
      · exact aNx
      · exact aNx
      · exact aNx
      · exact aNx
      · have := (hB.mem hge hb).2
        exact Nat.lt_of_lt_of_le this aNx
    · have hm : ∀ x, x < nx + 31 → x ∉ B := fun x hx hxb => by have := (hB.mem hge hxb).1; omega
      simp only [Lay.ids, List.nodup_cons, List.mem_cons, not_or]
      exact ⟨⟨by omega, by omega, by omega, hm _ (by omega)⟩, ⟨by omega, by omega, hm _ (by omega)⟩, ⟨by omega, hm _ (by omega)⟩, hm _ (by omega), hB.nodup hge⟩
    · simp only [Lay.ids, List.mem_cons] at hb
      rcases hb with rfl | rfl | rfl | rfl | hb
      · show nx ≤ nx + 23; omega
      · show nx ≤ nx + 11; omega
      · show nx ≤ nx + 16; omega
      · show nx ≤ nx + 21; omega
      · have := (hB.mem hge hb).1; omega
end Go.Proofs.Ytliabecchkolgaa
