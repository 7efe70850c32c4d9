/- What a load does. -/
import Derived.Test.YtliabecchkolgaaVg
namespace Go.Proofs.Ytliabecchkolgaa
open Go Go.Abs Go.Proofs
set_option linter.unusedSimpArgs false
set_option linter.unusedVariables false
def seenF (a : Int) : List StoreS → Int × Bool → Int × Bool
  | [], r => r
  | x :: t, r => seenF a t (if x.addr = a then (x.word, true) else r)
def doLoad (s : Mach) (q : Nat) (i : Instr) (did : DidS) : Mach × DidS :=
  let r := seenF i.addr (s.core q).buf (s.mem.getD i.addr.toNat 0, did.own)
  (s.setCore q ((s.core q).put i.d r.1), { did with kind := 2, addr := i.addr, word := r.1, own := r.2 })
set_option maxHeartbeats 4000000 in
theorem load_call {o : Obj} {s : Mach} {L : Lay} {H : Hp} {nx : Nat} (h : MAt o s L H nx) {q : Nat} (hq : q < s.cores.length) {d : Nat} {did : DidS} (hd : DidAt L H nx d did) (i : Instr) (hD : 0 ≤ i.d ∧ i.d < 16) (hM : 0 ≤ i.addr ∧ i.addr < s.mem.length) (hbl : (s.cores.getD q default).buf.length < 1000) :
    CallN Try.prog 53 [turnAv s L q d i] H nx (Turned o L H nx d (doLoad s q i did).1 (doLoad s q i did).2) := by
  refine Go.fn Try.func53 nm53 low53 res53 nt53 rfl ?_
  obtain ⟨dm, hm⟩ := h.m
  obtain ⟨dc, hc⟩ := h.c
  obtain ⟨dmem, hmem⟩ := h.mem
  obtain ⟨dpr, hpr⟩ := h.pr
  obtain ⟨db, hb⟩ := h.bufs q hq
  obtain ⟨dd, hdr⟩ := hd.row
  obtain ⟨a1, a2, a3, a4, a5, a6, a7, a8, a9, a10⟩ := h.apart hq
  obtain ⟨l1, l2, l3, l4, l5⟩ := h.lts hq
  obtain ⟨d1, d2, d3, d4, d5⟩ := Lay.out hd.out (q := q) (by rw [h.lens]; exact hq)
  have hdl := hd.lt
  have hel := rows_len h
  have hei := rows_at h hq
  rw [didRow] at hdr
  repeat' (first
    | ((with_reducible refine Go.red ?_); conv => whnf)
    | (with_reducible refine Go.and ?_ ?_)
    | (with_reducible exact True.intro)
    | (with_reducible refine Go.far ?_)
    | ((with_reducible refine Apt.mk ?_); (try dsimp only); omega)
    | ((with_reducible refine Ask.mk ?_); first | exact aAsk | exact aAsk2)
    | ((with_reducible refine Go.ari64 ?_ ?_ ?_); (· exact aBnd); (· exact aBnd))
    | ((with_reducible refine Go.ariu8 ?_ ?_ ?_); (· exact aBnd); (· exact aBnd))
    | (with_reducible refine Go.ari0 ?_)
    | (apply Go.elem; (· (first | exact hei _ | exact reg_at _ _ _ hD | exact aElem)))
    | (apply Go.row; (· exact aRow))
    | (apply Go.gives; (· exact aGives))
    | (apply Go.gives; (· exact aRes))
    | (with_reducible refine Go.unroll ?_)
    | (refine Go.gt rfl ?_)
    | (refine Go.gf rfl ?_)
    | (with_reducible refine Go.join ?_)
    | (refine Go.lt' rfl ?_)
    | (refine Go.lf' rfl ?_)
    | ((with_reducible refine Go.bool ?_ ?_) <;> intro hc <;> (try simp only [List.length_map, ne_eq, hcs] at hc) <;> try (exfalso; omega))
    | ((with_reducible refine Res.eq ?_ ?_); (· exact aFit)))
  refine Go.loop (fun k : Nat => [(1, .pt nx 1 0 0), (33, .sl (L.bufs.getD q 0) (s.cores.getD q default).buf.length), (34, i64 (s.cores.getD q default).buf.length), (35, i64 k)]) (fun k H' n => k ≤ (s.cores.getD q default).buf.length ∧ nx + 1 ≤ n ∧ getH H' nx = some (.row 95 12 .any [turnAv s L q d i]) ∧ (∃ w own, getH H' d = some (didRow { did with kind := 2, addr := i.addr, word := w, own := own } dd) ∧ seenF i.addr (s.cores.getD q default).buf (s.mem.getD i.addr.toNat 0, did.own) = seenF i.addr ((s.cores.getD q default).buf.drop k) (w, own)) ∧ ∀ b, b < nx → b ≠ d → getH H' b = getH H b) (fun k => (s.cores.getD q default).buf.length - k) 0 aLess ⟨Nat.zero_le _, by first | omega | (simp only [List.length_cons, List.length_nil]; omega), aRow, ⟨_, _, aRow, rfl⟩, (by intro b' hb' hne; repeat (first | exact rfl | (refine Eq.trans (getH_skipEq (by omega)) ?_)))⟩ ?_
  rintro k H' n ⟨hk, hn, hx, ⟨w, own, hdr2, hs⟩, hfr⟩
  rw [didRow] at hdr2
  have hm2 := (hfr _ l1 (Ne.symm d1)).trans hm
  have hc2 := (hfr _ l2 (Ne.symm d2)).trans hc
  have hb2 := (hfr _ l5 (Ne.symm d5)).trans hb
  have hmem2 := (hfr _ l3 (Ne.symm d3)).trans hmem
  have hpr2 := (hfr _ l4 (Ne.symm d4)).trans hpr
  clear hm hc hb hdr hmem hpr
  repeat' (first
    | ((with_reducible refine Go.red ?_); conv => whnf)
    | (with_reducible refine Go.and ?_ ?_)
    | (with_reducible exact True.intro)
    | (with_reducible refine Go.far ?_)
    | ((with_reducible refine Apt.mk ?_); (try dsimp only); omega)
    | ((with_reducible refine Ask.mk ?_); first | exact aAsk | exact aAsk2)
    | ((with_reducible refine Go.ari64 ?_ ?_ ?_); (· exact aBnd); (· exact aBnd))
    | ((with_reducible refine Go.ariu8 ?_ ?_ ?_); (· exact aBnd); (· exact aBnd))
    | (with_reducible refine Go.ari0 ?_)
    | (apply Go.elem; (· (first | exact hei _ | exact reg_at _ _ _ hD | exact aElem)))
    | (apply Go.row; (· exact aRow))
    | (apply Go.gives; (· exact aGives))
    | (apply Go.gives; (· exact aRes))
    | (with_reducible refine Go.unroll ?_)
    | (refine Go.gt rfl ?_)
    | (refine Go.gf rfl ?_)
    | (with_reducible refine Go.join ?_)
    | (refine Go.lt' rfl ?_)
    | (refine Go.lf' rfl ?_)
    | ((with_reducible refine Go.bool ?_ ?_) <;> intro hc <;> (try simp only [List.length_map, ne_eq, hcs] at hc) <;> try (exfalso; omega))
    | ((with_reducible refine Res.eq ?_ ?_); (· exact aFit)))
  · refine ⟨k + 1, by omega, aLess, by omega, by omega, aRow, ⟨((s.cores.getD q default).buf.getD k default).word, true, aRow, ?_⟩, (by intro b' hb' hne; repeat (first | exact hfr _ hb' hne | (refine Eq.trans (getH_skipEq (by omega)) ?_)))⟩
    rw [hs, drop_cons (by omega), seenF, if_pos (by first | assumption | simpa using (by assumption))]
  · refine ⟨k + 1, by omega, aLess, by omega, by omega, aRow, ⟨w, own, aRow, ?_⟩, (by intro b' hb' hne; repeat (first | exact hfr _ hb' hne | (refine Eq.trans (getH_skipEq (by omega)) ?_)))⟩
    rw [hs, drop_cons (by omega), seenF, if_neg (by assumption)]
  · have he : seenF i.addr (s.core q).buf (s.mem.getD i.addr.toNat 0, did.own) = (w, own) := by
      show seenF i.addr (s.cores.getD q default).buf _ = _
      rw [hs, List.drop_eq_nil_of_le (by omega), seenF]
    simp only [doLoad, he]
    refine ⟨⟨(by first | omega | (simp only [List.length_cons, List.length_nil]; omega)), ⟨_, h.next (q := q) hq ((s.core q).put i.d w) (L.bufs.getD q 0) (s.mem) (s.prints) (by first | omega | (simp only [List.length_cons, List.length_nil]; omega)) (by first | exact .inl rfl | (right; omega)) ⟨_, _, aRow, rfl⟩ ⟨_, _, aRow, (by rw [CoreS.av, ← put_cells _ _ _ _ hD]; rfl)⟩ ⟨_, _, aRow, rfl⟩ ⟨_, _, aRow, rfl⟩ ⟨_, _, aRow, rfl⟩ (by intro j hj hne hlt n1 n2 n3 n4 n5; have x5 := (Lay.out hd.out (q := j) (by rw [h.lens]; exact hj)).2.2.2.2; repeat (first | exact rfl | (exact hfr _ (by omega) (by omega)) | (refine Eq.trans (getH_skipEq (by first | omega | (simp only [List.length_cons, List.length_nil]; omega))) ?_)))⟩, ⟨_, aRow⟩, (by intro b' hb' hout hne; obtain ⟨o1, o2, o3, o4, o5⟩ := Lay.out hout (q := q) (by rw [h.lens]; exact hq); repeat (first | exact rfl | (exact hfr _ (by omega) (by omega)) | (refine Eq.trans (getH_skipEq (by first | omega | (simp only [List.length_cons, List.length_nil]; omega))) ?_)))⟩⟩
end Go.Proofs.Ytliabecchkolgaa
