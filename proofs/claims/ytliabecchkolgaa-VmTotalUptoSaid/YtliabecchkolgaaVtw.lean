/- A stretch in which a machine is forked and its fork steps. -/
import Derived.Test.YtliabecchkolgaaVfork
import Derived.Test.YtliabecchkolgaaAbsY
namespace Go.Proofs.Ytliabecchkolgaa
open Go Go.Abs Go.Proofs
set_option linter.unusedSimpArgs false
set_option linter.unusedVariables false
def tT : List Nat := [76, 77, 78, 79, 80, 81, 82, 75, 83, 84, 13]
def tV (m f b rb n i : Nat) (x : StepV) (d : DidS) (e : Int) : List AV := [.pt m 1 0 0, .pt f 1 0 0, .sl rb n, i64 i, .pt rb n i 0, x.av, .tup [d.av, i64 e], .tup [d.av, i64 e], d.av, i64 e, .pt b 1 0 0]
/-- What holds when just these have come up. -/
structure TI (o : Obj) (s : Mach) (M : Lay) (rs : List StepV) (rb i lo : Nat) (L : Nat → Bool) (fr : Fr) (H : Hp) (nx : Nat) (F : Lay) (b : Nat) : Prop where
  t5 : getF fr 5 = .pt M.m 1 0 0
  t11 : getF fr 11 = .sl rb rs.length
  t12 : getF fr 12 = i64 i
  val : ∀ k, k < 11 → L k = true → getF fr (tT.getD k 0) = (tV M.m F.m b rb rs.length i (rs.getD i default) (stepS o s (rs.getD i default).kind (rs.getD i default).core).2.1 (stepS o s (rs.getD i default).kind (rs.getD i default).core).2.2).getD k .any
  lo : lo ≤ nx
  hM : MAt o s M H nx
  rr : ∃ d, getH H rb = some (.row 46 2 d (rs.map StepV.av))
  rlt : rb < nx
  rout : rb ∉ M.ids
  c1 : L 1 = true → L 6 = false → Far M F ∧ rb ∉ F.ids ∧ MAt o s F H nx
  c10 : L 10 = true → b < nx ∧ b ∉ M.ids ∧ b ≠ rb ∧ (L 1 = true → L 6 = false → b ∉ F.ids) ∧ ∃ d es, getH H b = some (.row 33 7 d [.agg es]) ∧ es.length = 7
  c11 : L 11 = true → ∃ d, getH H b = some (.row 33 7 d [(stepS o s (rs.getD i default).kind (rs.getD i default).core).2.1.av])
theorem tT_ne {k i : Nat} (hk : k < 11) (hi : i < 11) (h : k ≠ i) : tT.getD k 0 ≠ tT.getD i 0 := by
  have h1 : k = 0 ∨ k = 1 ∨ k = 2 ∨ k = 3 ∨ k = 4 ∨ k = 5 ∨ k = 6 ∨ k = 7 ∨ k = 8 ∨ k = 9 ∨ k = 10 := by omega
  have h2 : i = 0 ∨ i = 1 ∨ i = 2 ∨ i = 3 ∨ i = 4 ∨ i = 5 ∨ i = 6 ∨ i = 7 ∨ i = 8 ∨ i = 9 ∨ i = 10 := by omega
  rcases h1 with rfl | rfl | rfl | rfl | rfl | rfl | rfl | rfl | rfl | rfl | rfl <;> rcases h2 with rfl | rfl | rfl | rfl | rfl | rfl | rfl | rfl | rfl | rfl | rfl <;> first | exact absurd rfl h | decide
theorem tT_keep {i : Nat} (hi : i < 11) : tT.getD i 0 ≠ 5 ∧ tT.getD i 0 ≠ 11 ∧ tT.getD i 0 ≠ 12 := by
  have h2 : i = 0 ∨ i = 1 ∨ i = 2 ∨ i = 3 ∨ i = 4 ∨ i = 5 ∨ i = 6 ∨ i = 7 ∨ i = 8 ∨ i = 9 ∨ i = 10 := by omega
  rcases h2 with rfl | rfl | rfl | rfl | rfl | rfl | rfl | rfl | rfl | rfl | rfl <;> decide
theorem getF_other {fr : Fr} {t u : Nat} {r : AV} (h : t ≠ u) : getF (putF fr (some u) r) t = getF fr t := by simp [putF, getF, h]
theorem getF_same {fr : Fr} {t : Nat} {r : AV} : getF (putF fr (some t) r) t = r := by simp [putF, getF]
/-- The frame goes on. -/
theorem TI.vals {o : Obj} {s : Mach} {M : Lay} {rs : List StepV} {rb i lo : Nat} {L : Nat → Bool} {fr : Fr} {H : Hp} {nx : Nat} {F F' : Lay} {b b' : Nat} (h : TI o s M rs rb i lo L fr H nx F b) {k : Nat} (hk : k < 11) (hL : L k = false) (hF : F'.m = F.m ∨ (k = 1)) (hb : b' = b ∨ (k = 10)) {r : AV}
    (hr : r = (tV M.m F'.m b' rb rs.length i (rs.getD i default) (stepS o s (rs.getD i default).kind (rs.getD i default).core).2.1 (stepS o s (rs.getD i default).kind (rs.getD i default).core).2.2).getD k .any) :
    ∀ j, j < 11 → (L j || j == k) = true → getF (putF fr (some (tT.getD k 0)) r) (tT.getD j 0) = (tV M.m F'.m b' rb rs.length i (rs.getD i default) (stepS o s (rs.getD i default).kind (rs.getD i default).core).2.1 (stepS o s (rs.getD i default).kind (rs.getD i default).core).2.2).getD j .any := by
  intro j hj hLj
  by_cases hjk : j = k
  · subst hjk; rw [getF_same, hr]
  · have hLj2 : L j = true := by
      have : (j == k) = false := by simpa using hjk
      simpa [this] using hLj
    rw [getF_other (tT_ne hj hk hjk), h.val j hj hLj2]
    have e1 : F'.m = F.m ∨ j ≠ 1 := hF.imp id (fun h => by omega)
    have e2 : b' = b ∨ j ≠ 10 := hb.imp id (fun h => by omega)
    have h1 : j = 0 ∨ j = 1 ∨ j = 2 ∨ j = 3 ∨ j = 4 ∨ j = 5 ∨ j = 6 ∨ j = 7 ∨ j = 8 ∨ j = 9 ∨ j = 10 := by omega
    rcases h1 with rfl | rfl | rfl | rfl | rfl | rfl | rfl | rfl | rfl | rfl | rfl <;> first | rfl | (rcases e1 with e1 | e1 <;> first | exact absurd rfl e1 | (simp [tV, e1] <;> fail)) | (rcases e2 with e2 | e2 <;> first | exact absurd rfl e2 | (simp [tV, e2] <;> fail))
/-- A step that touches no row. -/
theorem TI.plain {o : Obj} {s : Mach} {M : Lay} {rs : List StepV} {rb i lo : Nat} {L : Nat → Bool} {fr : Fr} {H : Hp} {nx : Nat} {F : Lay} {b : Nat} (h : TI o s M rs rb i lo L fr H nx F b) {k : Nat} (hk : k < 11) (hL : L k = false) (h1 : k ≠ 1) (h6 : k ≠ 6) (h10 : k ≠ 10) {r : AV}
    (hr : r = (tV M.m F.m b rb rs.length i (rs.getD i default) (stepS o s (rs.getD i default).kind (rs.getD i default).core).2.1 (stepS o s (rs.getD i default).kind (rs.getD i default).core).2.2).getD k .any) :
    ∃ F b, TI o s M rs rb i lo (fun j => L j || j == k) (putF fr (some (tT.getD k 0)) r) H (nx + 1) F b := by
  have e1 : (1 == k) = false := by simpa using Ne.symm h1
  have e6 : (6 == k) = false := by simpa using Ne.symm h6
  have e10 : (10 == k) = false := by simpa using Ne.symm h10
  have e11 : (11 == k) = false := by simp; omega
  obtain ⟨q1, q2, q3⟩ := tT_keep hk
  refine ⟨F, b, (getF_other (Ne.symm q1)).trans h.t5, (getF_other (Ne.symm q2)).trans h.t11, (getF_other (Ne.symm q3)).trans h.t12, h.vals hk hL (.inl rfl) (.inl rfl) hr, by have := h.lo; omega, h.hM.keep (fun _ _ => rfl) (by omega), h.rr, by have := h.rlt; omega, h.rout, ?_, ?_, ?_⟩
  · simp only [e1, e6, Bool.or_false]
    intro a1 a2
    obtain ⟨g1, g2, g3⟩ := h.c1 a1 a2
    exact ⟨g1, g2, g3.keep (fun _ _ => rfl) (by omega)⟩
  · simp only [e1, e6, e10, Bool.or_false]
    intro a
    obtain ⟨g1, g2, g3, g4, g5⟩ := h.c10 a
    exact ⟨by omega, g2, g3, g4, g5⟩
  · simp only [e11, Bool.or_false]
    exact h.c11
def opsT : List GOp := [⟨(some 76), none, (.mv (.t 5))⟩, ⟨(some 77), none, (.call (.f 25) [(.t 76)])⟩, ⟨(some 78), none, (.mv (.t 11))⟩, ⟨(some 79), none, (.mv (.t 12))⟩, ⟨(some 80), none, (.ia 2 none (.t 78) (.t 79))⟩, ⟨(some 81), none, (.ld true 2 (.t 80))⟩, ⟨(some 82), none, (.call (.f 19) [(.t 77), (.t 81)])⟩, ⟨(some 75), none, (.mv (.t 82))⟩, ⟨(some 83), none, (.ext 0 (.t 75))⟩, ⟨(some 84), none, (.ext 1 (.t 75))⟩, ⟨(some 13), none, (.alloc 33 7 true [(.int .u8 0), (.int .i64 0), (.int .i64 0), (.int .i64 0), (.int .i64 0), (.int .i64 0), (.bool false)])⟩, ⟨none, none, (.st true 7 (.t 13) (.t 83))⟩]
def psT : List (Nat × Nat) := [(1, 4), (1, 5), (1, 10), (4, 10), (5, 10), (6, 10)]
set_option maxHeartbeats 2000000 in
theorem total_wild {o : Obj} {s : Mach} {M : Lay} {rs : List StepV} {rb i lo : Nat} (g : Good o s) (ok : ObjOk o) (hpl : (s.prints.length + 1) * 16 ≤ 140737488355328) (hi : i < rs.length) : Wild Try.prog opsT psT (fun L fr H nx => ∃ F b, TI o s M rs rb i lo L fr H nx F b) := by
  intro k gg L fr H nx hg hL hpre hpost hI
  obtain ⟨F, b, h⟩ := hI
  have hk : k < 12 := by have := (List.getElem?_eq_some_iff.1 hg).1; simpa [opsT] using this
  have hx : (rs.map StepV.av).getD ((i : Int)).toNat .any = (rs.getD i default).av := getD_av _ _ _ _ hi
  have cases : k = 0 ∨ k = 1 ∨ k = 2 ∨ k = 3 ∨ k = 4 ∨ k = 5 ∨ k = 6 ∨ k = 7 ∨ k = 8 ∨ k = 9 ∨ k = 10 ∨ k = 11 := by omega
  have V := h.val
  rcases cases with rfl | rfl | rfl | rfl | rfl | rfl | rfl | rfl | rfl | rfl | rfl | rfl
  · obtain rfl : _ = gg := by simpa [opsT] using hg
    exact h.plain (k := 0) (by omega) hL (by omega) (by omega) (by omega) h.t5
  · obtain rfl : _ = gg := by simpa [opsT] using hg
    have p0 := V 0 (by omega) (hpre 0 (by omega) (by decide))
    have h6 : L 6 = false := hpost 6 (by omega) (by decide) (by decide)
    show CallN Try.prog 25 ([] ++ [getF fr 76] ++ []) H nx _
    rw [show getF fr 76 = .pt M.m 1 0 0 from p0]
    refine (fork_call h.hM g ok (by omega)).mono ?_
    rintro r H' n ⟨F', rfl, hF, hF0, hn, hf⟩
    refine ⟨F', b, (getF_other (by decide)).trans h.t5, (getF_other (by decide)).trans h.t11, (getF_other (by decide)).trans h.t12, h.vals (k := 1) (by omega) hL (.inr rfl) (.inl rfl) rfl, by have := h.lo; omega, h.hM.keep hf hn, ?_, by have := h.rlt; omega, h.rout, ?_, ?_, ?_⟩
    · obtain ⟨d, hr⟩ := h.rr
      exact ⟨d, (hf _ h.rlt).trans hr⟩
    · intro _ _
      exact ⟨fun x hx hm => by have := h.hM.lt x hx; have := hF0 x hm; omega, fun hm => by have := hF0 _ hm; have := h.rlt; omega, hF⟩
    · intro a
      have a : L 10 = true := by simpa using a
      obtain ⟨g1, g2, g3, g4, d, es, g5, g6⟩ := h.c10 a
      exact ⟨by omega, g2, g3, fun _ _ hm => by have := hF0 _ hm; omega, d, es, (hf _ g1).trans g5, g6⟩
    · intro a
      have a : L 11 = true := by simpa using a
      obtain ⟨d, hr⟩ := h.c11 a
      have a10 : L 10 = true := by
        cases h9 : L 10 with
        | true => rfl
        | false => exact absurd (hpost 11 (by omega) (by decide) (by decide)) (by rw [a]; simp)
      exact ⟨d, (hf _ (h.c10 a10).1).trans hr⟩
  · obtain rfl : _ = gg := by simpa [opsT] using hg
    exact h.plain (k := 2) (by omega) hL (by omega) (by omega) (by omega) h.t11
  · obtain rfl : _ = gg := by simpa [opsT] using hg
    exact h.plain (k := 3) (by omega) hL (by omega) (by omega) (by omega) h.t12
  · obtain rfl : _ = gg := by simpa [opsT] using hg
    have p2 : getF fr 78 = .sl rb rs.length := V 2 (by omega) (hpre 2 (by omega) (by decide))
    have p3 : getF fr 79 = i64 i := V 3 (by omega) (hpre 3 (by omega) (by decide))
    obtain ⟨d, hr⟩ := h.rr
    have e : stepL nx fr H (.ia 2 none (.t 78) (.t 79)) = some (.pt rb rs.length i 0, none) := by
      simp [stepL, ev, p2, p3, iaA, hr, hi]
    show optK (stepL nx fr H (.ia 2 none (.t 78) (.t 79))) _
    rw [e]
    exact h.plain (k := 4) (by omega) hL (by omega) (by omega) (by omega) rfl
  · obtain rfl : _ = gg := by simpa [opsT] using hg
    have p4 : getF fr 80 = .pt rb rs.length i 0 := V 4 (by omega) (hpre 4 (by omega) (by decide))
    obtain ⟨d, hr⟩ := h.rr
    have hx2 : (rs.map StepV.av).getD i d = (rs.getD i default).av := getD_av _ _ _ _ hi
    have e : stepL nx fr H (.ld true 2 (.t 80)) = some ((rs.getD i default).av, none) := by
      simp only [stepL, ev, p4, lookA, hr, List.length_map, if_true, hx2]
      simp [ldE, StepV.cells]
    show optK (stepL nx fr H (.ld true 2 (.t 80))) _
    rw [e]
    exact h.plain (k := 5) (by omega) hL (by omega) (by omega) (by omega) rfl
  · obtain rfl : _ = gg := by simpa [opsT] using hg
    have a1 := hpre 1 (by omega) (by decide)
    have p1 : getF fr 77 = .pt F.m 1 0 0 := V 1 (by omega) a1
    have p5 : getF fr 81 = (rs.getD i default).av := V 5 (by omega) (hpre 5 (by omega) (by decide))
    obtain ⟨c1, c2, c3⟩ := h.c1 a1 hL
    show CallN Try.prog 19 ([] ++ [getF fr 77, getF fr 81] ++ []) H nx _
    rw [p1, p5]
    refine (step_call c3 g ok hpl (rs.getD i default).kind (rs.getD i default).core).mono ?_
    rintro r H' n ⟨rfl, hn, _, hf⟩
    have rbo : getH H' rb = getH H rb := hf _ h.rlt c2
    refine ⟨F, b, (getF_other (by decide)).trans h.t5, (getF_other (by decide)).trans h.t11, (getF_other (by decide)).trans h.t12, h.vals (k := 6) (by omega) hL (.inl rfl) (.inl rfl) rfl, by have := h.lo; omega, h.hM.beside c1.symm hf hn, ?_, by have := h.rlt; omega, h.rout, ?_, ?_, ?_⟩
    · obtain ⟨d, hr⟩ := h.rr
      exact ⟨d, rbo.trans hr⟩
    · intro _ a; simp at a
    · intro a
      have a : L 10 = true := by simpa using a
      obtain ⟨g1, g2, g3, g4, d, es, g5, g6⟩ := h.c10 a
      exact ⟨by omega, g2, g3, fun _ a => by simp at a, d, es, (hf _ g1 (g4 a1 hL)).trans g5, g6⟩
    · intro a
      exfalso
      have a : L 11 = true := by simpa using a
      exact absurd (hpost 11 (by omega) (by decide) (by decide)) (by rw [a]; simp)
  · obtain rfl : _ = gg := by simpa [opsT] using hg
    have p6 := V 6 (by omega) (hpre 6 (by omega) (by decide))
    exact h.plain (k := 7) (by omega) hL (by omega) (by omega) (by omega) p6
  · obtain rfl : _ = gg := by simpa [opsT] using hg
    have p7 : getF fr 75 = _ := V 7 (by omega) (hpre 7 (by omega) (by decide))
    have e : stepL nx fr H (.ext 0 (.t 75)) = some ((stepS o s (rs.getD i default).kind (rs.getD i default).core).2.1.av, none) := by
      simp [stepL, ev, p7, tV]
    show optK (stepL nx fr H (.ext 0 (.t 75))) _
    rw [e]
    exact h.plain (k := 8) (by omega) hL (by omega) (by omega) (by omega) rfl
  · obtain rfl : _ = gg := by simpa [opsT] using hg
    have p7 : getF fr 75 = _ := V 7 (by omega) (hpre 7 (by omega) (by decide))
    have e : stepL nx fr H (.ext 1 (.t 75)) = some (i64 (stepS o s (rs.getD i default).kind (rs.getD i default).core).2.2, none) := by
      simp [stepL, ev, p7, tV]
    show optK (stepL nx fr H (.ext 1 (.t 75))) _
    rw [e]
    exact h.plain (k := 9) (by omega) hL (by omega) (by omega) (by omega) rfl
  · obtain rfl : _ = gg := by simpa [opsT] using hg
    have a11 : L 11 = false := hpost 11 (by omega) (by decide) (by decide)
    show ∃ F b, TI o s M rs rb i lo (fun j => L j || j == 10) (putF fr (some 13) (.pt nx 1 0 0)) (putH H (some (nx, Blk.row 33 7 (zav true [(.int .u8 0), (.int .i64 0), (.int .i64 0), (.int .i64 0), (.int .i64 0), (.int .i64 0), (.bool false)]) [zav true [(.int .u8 0), (.int .i64 0), (.int .i64 0), (.int .i64 0), (.int .i64 0), (.int .i64 0), (.bool false)]]))) (nx + 1) F b
    have hsk : ∀ x, x < nx → getH (putH H (some (nx, Blk.row 33 7 (zav true [(.int .u8 0), (.int .i64 0), (.int .i64 0), (.int .i64 0), (.int .i64 0), (.int .i64 0), (.bool false)]) [zav true [(.int .u8 0), (.int .i64 0), (.int .i64 0), (.int .i64 0), (.int .i64 0), (.int .i64 0), (.bool false)]]))) x = getH H x := fun x hx => getH_skipEq (by omega)
    have hlt := h.rlt
    refine ⟨F, nx, (getF_other (by decide)).trans h.t5, (getF_other (by decide)).trans h.t11, (getF_other (by decide)).trans h.t12, h.vals (k := 10) (by omega) hL (.inl rfl) (.inr rfl) rfl, by have := h.lo; omega, h.hM.keep hsk (by omega), ?_, by omega, h.rout, ?_, ?_, ?_⟩
    · obtain ⟨d, hr⟩ := h.rr
      exact ⟨d, (hsk _ hlt).trans hr⟩
    · intro b1 b2
      obtain ⟨g1, g2, g3⟩ := h.c1 (by simpa using b1) (by simpa using b2)
      exact ⟨g1, g2, g3.keep hsk (by omega)⟩
    · intro _
      exact ⟨by omega, fun hm => by have := h.hM.lt _ hm; omega, by omega, fun b1 b2 hm => by have := (h.c1 (by simpa using b1) (by simpa using b2)).2.2.lt _ hm; omega, _, _, getH_here _ _ _, rfl⟩
    · intro a; exfalso; have a : L 11 = true := by simpa using a
      rw [a11] at a; cases a
  · obtain rfl : _ = gg := by simpa [opsT] using hg
    have a10 := hpre 10 (by omega) (by decide)
    have p10 : getF fr 13 = .pt b 1 0 0 := V 10 (by omega) a10
    have p8 : getF fr 83 = _ := V 8 (by omega) (hpre 8 (by omega) (by decide))
    obtain ⟨g1, g2, g3, g4, d, es, g5, g6⟩ := h.c10 a10
    have e : stepL nx fr H (.st true 7 (.t 13) (.t 83)) = some (.any, some (b, .row 33 7 d [(stepS o s (rs.getD i default).kind (rs.getD i default).core).2.1.av])) := by
      simp [stepL, ev, p10, p8, tV, g5, stE, allOne, one, Value.oneCell']
    show optK (stepL nx fr H (.st true 7 (.t 13) (.t 83))) _
    rw [e]
    have hsk : ∀ x, x ≠ b → getH (putH H (some (b, Blk.row 33 7 d [(stepS o s (rs.getD i default).kind (rs.getD i default).core).2.1.av]))) x = getH H x := fun x hx => getH_skipEq hx
    have hval2 : ∀ j, j < 11 → (L j || j == 11) = true → L j = true := by
      intro j hj hLj
      have e2 : (j == 11) = false := by simp; omega
      simpa [e2] using hLj
    refine ⟨F, b, h.t5, h.t11, h.t12, fun j hj hLj => h.val j hj (hval2 j hj hLj), by have := h.lo; omega, h.hM.keepIds (fun x hx => hsk x (fun he => g2 (he ▸ hx))) (by omega), ?_, by have := h.rlt; omega, h.rout, ?_, ?_, ?_⟩
    · obtain ⟨d, hr⟩ := h.rr
      exact ⟨d, (hsk _ (Ne.symm g3)).trans hr⟩
    · intro b1 b2
      have b1 : L 1 = true := by simpa using b1
      have b2 : L 6 = false := by simpa using b2
      obtain ⟨q1, q2, q3⟩ := h.c1 b1 b2
      exact ⟨q1, q2, q3.keepIds (fun x hx => hsk x (fun he => g4 b1 b2 (he ▸ hx))) (by omega)⟩
    · intro _
      exact ⟨by omega, g2, g3, fun b1 b2 => g4 (by simpa using b1) (by simpa using b2), _, _, getH_here _ _ _, rfl⟩
    · intro _
      exact ⟨_, getH_here _ _ _⟩
end Go.Proofs.Ytliabecchkolgaa
