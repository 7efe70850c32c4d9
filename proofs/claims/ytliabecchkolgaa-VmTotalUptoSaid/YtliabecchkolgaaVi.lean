/- Which turn, and what it does. -/
import Derived.Test.YtliabecchkolgaaVe
namespace Go.Proofs.Ytliabecchkolgaa
open Go Go.Abs Go.Proofs
set_option linter.unusedSimpArgs false
set_option linter.unusedVariables false
def out (s : Mach) (k : Int) : Prop := k < 0 ∨ (s.cores.length : Int) ≤ k
instance (s : Mach) (k : Int) : Decidable (out s k) := by unfold out; infer_instance
def hasE (s : Mach) (k : Int) : Int := if out s k then 180 else 0
theorem has_call {o : Obj} {s : Mach} {L : Lay} {H : Hp} {nx : Nat} (h : MAt o s L H nx) (k : Int) : Look Try.prog 35 [.pt L.m 1 0 0, i64 k] H nx (i64 (hasE s k)) := by
  refine Go.lookAt Try.func35 nm35 low35 res35 nt35 rfl ?_
  obtain ⟨dm, hm⟩ := h.m
  obtain ⟨dc, hc⟩ := h.c
  have hel := rows_len h
  repeat' (first
    | ((with_reducible refine Go.red ?_); conv => whnf)
    | (with_reducible refine Go.and ?_ ?_)
    | (with_reducible exact True.intro)
    | (with_reducible refine Go.far ?_)
    | ((with_reducible refine Apt.mk ?_); (try dsimp only); omega)
    | ((with_reducible refine Ask.mk ?_); first | exact aAsk | exact aAsk2)
    | ((with_reducible refine Go.ari64 ?_ ?_ ?_); (· exact aBnd); (· exact aBnd))
    | ((with_reducible refine Go.ariu8 ?_ ?_ ?_); (· exact aBnd); (· exact aBnd))
    | (with_reducible refine Go.ari0 ?_)
    | (apply Go.elem; (· exact aElem))
    | (apply Go.row; (· exact aRow))
    | (apply Go.gives; (· exact aGives))
    | (apply Go.gives; (· exact aRes))
    | (with_reducible refine Go.unroll ?_)
    | (with_reducible refine Go.drawn ?_)
    | (refine Go.gt rfl ?_)
    | (refine Go.gf rfl ?_)
    | (with_reducible refine Go.join ?_)
    | (refine Go.lt' rfl ?_)
    | (refine Go.lf' rfl ?_)
    | ((with_reducible refine Go.bool ?_ ?_) <;> intro hc <;> (try simp only [List.length_map, ne_eq, hcs] at hc) <;> try (exfalso; omega))
    | ((with_reducible refine Res.eq ?_ ?_); (· exact aFit)))
  · refine ResN.look ?_ aKeep
    rw [hasE, if_pos (by unfold out; omega)]
  · refine ResN.look ?_ aKeep
    rw [hasE, if_neg (by unfold out; omega)]
abbrev Obj.core (o : Obj) (q : Nat) : Core := o.cores.getD q default
def instrAt (o : Obj) (s : Mach) (q : Nat) : Instr := (o.core q).code.getD (s.core q).pc.toNat default
abbrev turnP (s : Mach) (L : Lay) (q : Nat) (d : AV) (i : Instr) : AV := .agg [.pt L.m 1 0 0, .pt L.c s.cores.length q 0, u8 i.kind, u8 i.op, i64 i.d, i64 i.a, i64 i.b, i64 i.addr, i64 i.to, i64 i.word, i64 i.fr, d]
def Kept (H : Hp) (nx : Nat) (r0 : AV) : AV → Hp → Nat → Prop := fun r H' n => r = r0 ∧ nx ≤ n ∧ ∀ b, b < nx → getH H' b = getH H b
theorem next_call {o : Obj} {s : Mach} {L : Lay} {H : Hp} {nx : Nat} (h : MAt o s L H nx) {q : Nat} (hq : q < s.cores.length) (hn : s.cores.length = o.cores.length) (hpc : 0 ≤ (s.core q).pc ∧ (s.core q).pc < (o.core q).code.length) (d : Nat) :
    CallN Try.prog 36 [.pt L.m 1 0 0, i64 q, .pt d 1 0 0] H nx (Kept H nx (turnP s L q (.pt d 1 0 0) (instrAt o s q))) := by
  refine Go.fn Try.func36 nm36 low36 res36 nt36 rfl ?_
  obtain ⟨dm, hm⟩ := h.m
  obtain ⟨dc, hc⟩ := h.c
  have hel := rows_len h
  have hei := rows_at h hq
  obtain ⟨l1, l2, l3, l4, l5⟩ := h.lts hq
  have hqo : q < o.cores.length := by omega
  have hpc2 : (s.cores.getD q default).pc.toNat < (o.cores.getD q default).code.length := by
    have h1 : (s.cores.getD q default).pc < (o.cores.getD q default).code.length := hpc.2
    have h2 : 0 ≤ (s.cores.getD q default).pc := hpc.1
    omega
  have hpc3 : 0 ≤ (s.cores.getD q default).pc := hpc.1
  repeat' (first
    | ((with_reducible refine Go.red ?_); conv => whnf)
    | (with_reducible refine Go.and ?_ ?_)
    | (with_reducible exact True.intro)
    | (with_reducible refine Go.far ?_)
    | ((with_reducible refine Apt.mk ?_); (try dsimp only); omega)
    | ((with_reducible refine Ask.mk ?_); first | exact aAsk | exact aAsk2)
    | ((with_reducible refine Go.ari64 ?_ ?_ ?_); (· exact aBnd); (· exact aBnd))
    | ((with_reducible refine Go.ariu8 ?_ ?_ ?_); (· exact aBnd); (· exact aBnd))
    | (with_reducible refine Go.ari0 ?_)
    | (apply Go.elem; (· (first | exact hei _ | exact getD_av _ _ _ _ hpc2 | exact aElem)))
    | (apply Go.row; (· exact aRow))
    | (apply Go.gives; (· exact aGives))
    | (apply Go.gives; (· exact aRes))
    | (with_reducible refine Go.unroll ?_)
    | (with_reducible refine Go.drawn ?_)
    | (refine Go.gt rfl ?_)
    | (refine Go.gf rfl ?_)
    | (with_reducible refine Go.join ?_)
    | (refine Go.lt' rfl ?_)
    | (refine Go.lf' rfl ?_)
    | ((with_reducible refine Go.bool ?_ ?_) <;> intro hc <;> (try simp only [List.length_map, ne_eq, hcs] at hc) <;> try (exfalso; omega))
    | ((with_reducible refine Res.eq ?_ ?_); (· exact aFit)))
  exact ⟨⟨rfl, aNx, aKeep⟩⟩
theorem next_nil {o : Obj} {s : Mach} {L : Lay} {H : Hp} {nx : Nat} (h : MAt o s L H nx) {q : Nat} (hq : q < s.cores.length) (hn : s.cores.length = o.cores.length) (hpc : 0 ≤ (s.core q).pc ∧ (s.core q).pc < (o.core q).code.length) :
    CallN Try.prog 36 [.pt L.m 1 0 0, i64 q, .sc (.pointer none)] H nx (Kept H nx (turnP s L q (.sc (.pointer none)) (instrAt o s q))) := by
  refine Go.fn Try.func36 nm36 low36 res36 nt36 rfl ?_
  obtain ⟨dm, hm⟩ := h.m
  obtain ⟨dc, hc⟩ := h.c
  have hel := rows_len h
  have hei := rows_at h hq
  obtain ⟨l1, l2, l3, l4, l5⟩ := h.lts hq
  have hqo : q < o.cores.length := by omega
  have hpc2 : (s.cores.getD q default).pc.toNat < (o.cores.getD q default).code.length := by
    have h1 : (s.cores.getD q default).pc < (o.cores.getD q default).code.length := hpc.2
    have h2 : 0 ≤ (s.cores.getD q default).pc := hpc.1
    omega
  have hpc3 : 0 ≤ (s.cores.getD q default).pc := hpc.1
  repeat' (first
    | ((with_reducible refine Go.red ?_); conv => whnf)
    | (with_reducible refine Go.and ?_ ?_)
    | (with_reducible exact True.intro)
    | (with_reducible refine Go.far ?_)
    | ((with_reducible refine Apt.mk ?_); (try dsimp only); omega)
    | ((with_reducible refine Ask.mk ?_); first | exact aAsk | exact aAsk2)
    | ((with_reducible refine Go.ari64 ?_ ?_ ?_); (· exact aBnd); (· exact aBnd))
    | ((with_reducible refine Go.ariu8 ?_ ?_ ?_); (· exact aBnd); (· exact aBnd))
    | (with_reducible refine Go.ari0 ?_)
    | (apply Go.elem; (· (first | exact hei _ | exact getD_av _ _ _ _ hpc2 | exact aElem)))
    | (apply Go.row; (· exact aRow))
    | (apply Go.gives; (· exact aGives))
    | (apply Go.gives; (· exact aRes))
    | (with_reducible refine Go.unroll ?_)
    | (with_reducible refine Go.drawn ?_)
    | (refine Go.gt rfl ?_)
    | (refine Go.gf rfl ?_)
    | (with_reducible refine Go.join ?_)
    | (refine Go.lt' rfl ?_)
    | (refine Go.lf' rfl ?_)
    | ((with_reducible refine Go.bool ?_ ?_) <;> intro hc <;> (try simp only [List.length_map, ne_eq, hcs] at hc) <;> try (exfalso; omega))
    | ((with_reducible refine Res.eq ?_ ?_); (· exact aFit)))
  exact ⟨⟨rfl, aNx, aKeep⟩⟩
def stallsF (o : Obj) (s : Mach) (q : Nat) (i : Instr) : Bool := if i.kind = 4 then decide (o.buffer ≤ (s.core q).buf.length) else if i.kind = 5 ∨ i.kind = 6 ∨ i.kind = 7 then decide ((0 : Int) < (s.core q).buf.length) else false
theorem stalls_call {o : Obj} {s : Mach} {L : Lay} {H : Hp} {nx : Nat} (h : MAt o s L H nx) {q : Nat} (hq : q < s.cores.length) (d : Nat) (i : Instr) :
    Look Try.prog 37 [turnP s L q (.pt d 1 0 0) i] H nx (bl (stallsF o s q i)) := by
  refine Go.lookAt Try.func37 nm37 low37 res37 nt37 rfl ?_
  obtain ⟨dm, hm⟩ := h.m
  obtain ⟨dc, hc⟩ := h.c
  obtain ⟨db, hb⟩ := h.bufs q hq
  have hel := rows_len h
  have hei := rows_at h hq
  obtain ⟨l1, l2, l3, l4, l5⟩ := h.lts hq
  repeat' (first
    | ((with_reducible refine Go.red ?_); conv => whnf)
    | (with_reducible refine Go.and ?_ ?_)
    | (with_reducible exact True.intro)
    | (with_reducible refine Go.far ?_)
    | ((with_reducible refine Apt.mk ?_); (try dsimp only); omega)
    | ((with_reducible refine Ask.mk ?_); first | exact aAsk | exact aAsk2)
    | ((with_reducible refine Go.ari64 ?_ ?_ ?_); (· exact aBnd); (· exact aBnd))
    | ((with_reducible refine Go.ariu8 ?_ ?_ ?_); (· exact aBnd); (· exact aBnd))
    | (with_reducible refine Go.ari0 ?_)
    | (apply Go.elem; (· (first | exact hei _ | exact aElem)))
    | (apply Go.row; (· exact aRow))
    | (apply Go.gives; (· exact aGives))
    | (apply Go.gives; (· exact aRes))
    | (with_reducible refine Go.unroll ?_)
    | (with_reducible refine Go.drawn ?_)
    | (refine Go.gt rfl ?_)
    | (refine Go.gf rfl ?_)
    | (with_reducible refine Go.join ?_)
    | (refine Go.lt' rfl ?_)
    | (refine Go.lf' rfl ?_)
    | ((with_reducible refine Go.bool ?_ ?_) <;> intro hc <;> (try simp only [List.length_map, ne_eq, hcs] at hc) <;> try (exfalso; omega))
    | ((with_reducible refine Res.eq ?_ ?_); (· exact aFit)))
  all_goals refine ResN.look ?_ aKeep
  all_goals simp only [stallsF]
  · rw [if_pos (by assumption)]
  · rw [if_neg (by omega), if_pos (by omega)]
  · rw [if_neg (by omega), if_pos (by omega)]
  · rw [if_neg (by omega), if_pos (by omega)]
  · rw [if_neg (by omega), if_neg (by omega)]
theorem stalls_nil {o : Obj} {s : Mach} {L : Lay} {H : Hp} {nx : Nat} (h : MAt o s L H nx) {q : Nat} (hq : q < s.cores.length) (i : Instr) :
    Look Try.prog 37 [turnP s L q (.sc (.pointer none)) i] H nx (bl (stallsF o s q i)) := by
  refine Go.lookAt Try.func37 nm37 low37 res37 nt37 rfl ?_
  obtain ⟨dm, hm⟩ := h.m
  obtain ⟨dc, hc⟩ := h.c
  obtain ⟨db, hb⟩ := h.bufs q hq
  have hel := rows_len h
  have hei := rows_at h hq
  obtain ⟨l1, l2, l3, l4, l5⟩ := h.lts hq
  repeat' (first
    | ((with_reducible refine Go.red ?_); conv => whnf)
    | (with_reducible refine Go.and ?_ ?_)
    | (with_reducible exact True.intro)
    | (with_reducible refine Go.far ?_)
    | ((with_reducible refine Apt.mk ?_); (try dsimp only); omega)
    | ((with_reducible refine Ask.mk ?_); first | exact aAsk | exact aAsk2)
    | ((with_reducible refine Go.ari64 ?_ ?_ ?_); (· exact aBnd); (· exact aBnd))
    | ((with_reducible refine Go.ariu8 ?_ ?_ ?_); (· exact aBnd); (· exact aBnd))
    | (with_reducible refine Go.ari0 ?_)
    | (apply Go.elem; (· (first | exact hei _ | exact aElem)))
    | (apply Go.row; (· exact aRow))
    | (apply Go.gives; (· exact aGives))
    | (apply Go.gives; (· exact aRes))
    | (with_reducible refine Go.unroll ?_)
    | (with_reducible refine Go.drawn ?_)
    | (refine Go.gt rfl ?_)
    | (refine Go.gf rfl ?_)
    | (with_reducible refine Go.join ?_)
    | (refine Go.lt' rfl ?_)
    | (refine Go.lf' rfl ?_)
    | ((with_reducible refine Go.bool ?_ ?_) <;> intro hc <;> (try simp only [List.length_map, ne_eq, hcs] at hc) <;> try (exfalso; omega))
    | ((with_reducible refine Res.eq ?_ ?_); (· exact aFit)))
  all_goals refine ResN.look ?_ aKeep
  all_goals simp only [stallsF]
  · rw [if_pos (by assumption)]
  · rw [if_neg (by omega), if_pos (by omega)]
  · rw [if_neg (by omega), if_pos (by omega)]
  · rw [if_neg (by omega), if_pos (by omega)]
  · rw [if_neg (by omega), if_neg (by omega)]
def actFn (k : Int) : FuncId := if k = 1 then 51 else if k = 2 then 52 else if k = 3 then 53 else if k = 4 then 54 else if k = 5 then 55 else if k = 6 then 56 else if k = 7 then 57 else if k = 8 then 58 else if k = 9 then 59 else 60
def act (s : Mach) (q : Nat) (i : Instr) (did : DidS) : Mach × DidS := if i.kind = 1 then doSet s q i did else if i.kind = 2 then doOp s q i did else if i.kind = 3 then doLoad s q i did else if i.kind = 4 then doStore s q i did else if i.kind = 5 then doSwap s q i did else if i.kind = 6 then doFence s q i did else if i.kind = 7 then doPrint s q i did else if i.kind = 8 then doJump s q i did else if i.kind = 9 then doZero s q i did else doHalt s q i did
theorem kinds {k : Int} (h : 1 ≤ k ∧ k ≤ 10) : k = 1 ∨ k = 2 ∨ k = 3 ∨ k = 4 ∨ k = 5 ∨ k = 6 ∨ k = 7 ∨ k = 8 ∨ k = 9 ∨ k = 10 := by omega
theorem does_pure (k : Int) (h : 1 ≤ k ∧ k ≤ 10) : Pure Try.prog 38 [u8 k] (fun r => r = .fn (.func (actFn k)) [] []) := by
  rcases kinds h with rfl | rfl | rfl | rfl | rfl | rfl | rfl | rfl | rfl | rfl
  all_goals exact run_pure2 (by simp [fitA, fitL]) (by kernel_rfl)
structure ActOk (i : Instr) (code mem : Int) : Prop where
  kind : 1 ≤ i.kind ∧ i.kind ≤ 10
  d : 0 ≤ i.d ∧ i.d < 16
  a : 0 ≤ i.a ∧ i.a < 16
  b : 0 ≤ i.b ∧ i.b < 16
  op : i.kind = 2 → 1 ≤ i.op ∧ i.op ≤ 18
  addr : i.kind = 3 ∨ i.kind = 4 ∨ i.kind = 5 → 0 ≤ i.addr ∧ i.addr < mem
  to : i.kind = 8 ∨ i.kind = 9 → 0 ≤ i.to ∧ i.to < code
theorem within_16 {u : Bool} {n : Int} (h : within u n 16 = true) : 0 ≤ n ∧ n < 16 := by
  simp only [within, Bool.or_eq_true, Bool.and_eq_true, decide_eq_true_eq] at h; omega
theorem within_t {n m : Int} (h : within true n m = true) : 0 ≤ n ∧ n < m := by
  simpa [within] using h
theorem instrOk_act {i : Instr} {code mem : Int} (h : instrOk i code mem = true) : ActOk i code mem := by
  simp only [instrOk, Bool.and_eq_true] at h
  obtain ⟨⟨⟨⟨⟨⟨⟨⟨⟨h1, _⟩, _⟩, h2⟩, h3⟩, h4⟩, h5⟩, h6⟩, h7⟩, _⟩ := h
  have hk : 1 ≤ i.kind ∧ i.kind ≤ 10 := by simpa [kindOk] using h1
  refine ⟨hk, within_16 h3, within_16 h4, within_16 h5, ?_, ?_, ?_⟩
  · intro h; simpa [h] using h2
  · rintro (h | h | h) <;> rw [h] at h6
    · rw [show mask 3 i.op = 18 from rfl, show decide (bitOf 18 16 ≠ 0) = true by decide] at h6; exact within_t h6
    · rw [show mask 4 i.op = 20 from rfl, show decide (bitOf 20 16 ≠ 0) = true by decide] at h6; exact within_t h6
    · rw [show mask 5 i.op = 18 from rfl, show decide (bitOf 18 16 ≠ 0) = true by decide] at h6; exact within_t h6
  · rintro (h | h) <;> rw [h] at h7
    · rw [show mask 8 i.op = 32 from rfl, show decide (bitOf 32 32 ≠ 0) = true by decide] at h7; exact within_t h7
    · rw [show mask 9 i.op = 36 from rfl, show decide (bitOf 36 32 ≠ 0) = true by decide] at h7; exact within_t h7
theorem act_call {o : Obj} {s : Mach} {L : Lay} {H : Hp} {nx : Nat} (h : MAt o s L H nx) {q : Nat} (hq : q < s.cores.length) {d : Nat} {did : DidS} (hd : DidAt L H nx d did) (i : Instr) {code : Int} (ok : ActOk i code s.mem.length)
    (hbl : (s.core q).buf.length < 1000) (hpl : (s.prints.length + 1) * 16 ≤ 140737488355328) :
    CallN Try.prog (actFn i.kind) [turnAv s L q d i] H nx (Turned o L H nx d (act s q i did).1 (act s q i did).2) := by
  have hk := kinds ok.kind
  by_cases k1 : i.kind = 1
  · simp only [actFn, act, if_pos k1]; exact set_call h hq hd i ok.d
  by_cases k2 : i.kind = 2
  · simp only [actFn, act, if_neg k1, if_pos k2]
    have ho := ok.op k2
    by_cases ht : two i.op = true
    · exact op_two h hq hd i ok.d ok.a ok.b ht
    · have ht : two i.op = false := by simpa using ht
      refine op_one h hq hd i ok.d ok.a ok.b ht ?_
      simp only [two, Bool.and_eq_false_iff, decide_eq_false_iff_not] at ht; omega
  by_cases k3 : i.kind = 3
  · simp only [actFn, act, if_neg k1, if_neg k2, if_pos k3]; exact load_call h hq hd i ok.d (ok.addr (by omega)) hbl
  by_cases k4 : i.kind = 4
  · simp only [actFn, act, if_neg k1, if_neg k2, if_neg k3, if_pos k4]; exact store_call h hq hd i ok.a hbl
  by_cases k5 : i.kind = 5
  · simp only [actFn, act, if_neg k1, if_neg k2, if_neg k3, if_neg k4, if_pos k5]; exact swap_call h hq hd i ok.d (ok.addr (by omega))
  by_cases k6 : i.kind = 6
  · simp only [actFn, act, if_neg k1, if_neg k2, if_neg k3, if_neg k4, if_neg k5, if_pos k6]; exact fence_call h hq hd i
  by_cases k7 : i.kind = 7
  · simp only [actFn, act, if_neg k1, if_neg k2, if_neg k3, if_neg k4, if_neg k5, if_neg k6, if_pos k7]; exact print_call h hq hd i ok.a hpl
  by_cases k8 : i.kind = 8
  · simp only [actFn, act, if_neg k1, if_neg k2, if_neg k3, if_neg k4, if_neg k5, if_neg k6, if_neg k7, if_pos k8]; exact jump_call h hq hd i
  by_cases k9 : i.kind = 9
  · simp only [actFn, act, if_neg k1, if_neg k2, if_neg k3, if_neg k4, if_neg k5, if_neg k6, if_neg k7, if_neg k8, if_pos k9]; exact zero_call h hq hd i ok.a
  simp only [actFn, act, if_neg k1, if_neg k2, if_neg k3, if_neg k4, if_neg k5, if_neg k6, if_neg k7, if_neg k8, if_neg k9]; exact halt_call h hq hd i
end Go.Proofs.Ytliabecchkolgaa
/- A core's run. -/
namespace Go.Proofs.Ytliabecchkolgaa
open Go Go.Abs Go.Proofs
set_option linter.unusedSimpArgs false
set_option linter.unusedVariables false
theorem MAt.keepIds {o : Obj} {s : Mach} {L : Lay} {H H' : Hp} {nx nx' : Nat} (h : MAt o s L H nx) (hf : ∀ b, b ∈ L.ids → getH H' b = getH H b) (hn : nx ≤ nx') : MAt o s L H' nx' := by
  obtain ⟨d1, h1⟩ := h.m
  obtain ⟨d2, h2⟩ := h.c
  obtain ⟨d3, h3⟩ := h.mem
  obtain ⟨d4, h4⟩ := h.pr
  refine ⟨⟨d1, (hf _ (by simp [Lay.ids])).trans h1⟩, ⟨d2, (hf _ (by simp [Lay.ids])).trans h2⟩, ⟨d3, (hf _ (by simp [Lay.ids])).trans h3⟩, ⟨d4, (hf _ (by simp [Lay.ids])).trans h4⟩, ?_, h.lens, fun b hb => Nat.lt_of_lt_of_le (h.lt b hb) hn, h.nodup⟩
  intro i hi
  obtain ⟨d5, h5⟩ := h.bufs i hi
  exact ⟨d5, (hf _ (by simp only [Lay.ids, List.mem_cons]; exact .inr (.inr (.inr (.inr (Lay.mem_buf (by rw [h.lens]; exact hi))))))).trans h5⟩
theorem MAt.keep {o : Obj} {s : Mach} {L : Lay} {H H' : Hp} {nx nx' : Nat} (h : MAt o s L H nx) (hf : ∀ b, b < nx → getH H' b = getH H b) (hn : nx ≤ nx') : MAt o s L H' nx' := h.keepIds (fun b hb => hf b (h.lt b hb)) hn
structure ObjOk (o : Obj) : Prop where
  buffer : 1 ≤ o.buffer ∧ o.buffer ≤ 16
  cores : o.cores.length ≤ 8
  mem : o.mem.length ≤ 4096
  code : ∀ q, q < o.cores.length → 1 ≤ (o.core q).code.length ∧ (o.core q).code.length ≤ 16384
  last : ∀ q, q < o.cores.length → lastOk (o.core q) = true
  ok : ∀ q, q < o.cores.length → ∀ k, k < (o.core q).code.length → instrOk ((o.core q).code.getD k default) (o.core q).code.length o.mem.length = true
structure Good (o : Obj) (s : Mach) : Prop where
  n : s.cores.length = o.cores.length
  mem : s.mem.length = o.mem.length
  pc : ∀ q, q < s.cores.length → 0 ≤ (s.core q).pc ∧ (s.core q).pc < (o.core q).code.length
  buf : ∀ q, q < s.cores.length → ((s.core q).buf.length : Int) ≤ o.buffer
  addr : ∀ q, q < s.cores.length → ∀ x ∈ (s.core q).buf, 0 ≤ x.addr ∧ x.addr < s.mem.length
def did0 : DidS := ⟨0, 0, 0, 0, 0, 0, false⟩
def Mach.inc (s : Mach) (q : Nat) : Mach := s.setCore q { s.core q with pc := (s.core q).pc + 1 }
def runS (o : Obj) (s : Mach) (k : Int) : Mach × DidS × Int :=
  if out s k then (s, did0, 180) else if (s.core k.toNat).halted = true then (s, did0, 0) else if stallsF o s k.toNat (instrAt o s k.toNat) = true then (s, did0, 181) else
    let r := act (s.inc k.toNat) k.toNat (instrAt o s k.toNat) { did0 with core := k, pc := (s.core k.toNat).pc }
    (r.1, r.2, 0)
def Stepped (o : Obj) (L : Lay) (H : Hp) (nx : Nat) (x : Mach × DidS × Int) : AV → Hp → Nat → Prop := fun r H' n =>
  r = .tup [x.2.1.av, i64 x.2.2] ∧ nx ≤ n ∧ (∃ L', MAt o x.1 L' H' n ∧ Moves L L' nx) ∧ ∀ b, b < nx → b ∉ L.ids → getH H' b = getH H b
theorem Stepped.same {o : Obj} {s : Mach} {L : Lay} {H H' : Hp} {nx n : Nat} (h : MAt o s L H nx) {d : DidS} {e : Int} (hn : nx ≤ n) (hf : ∀ b, b < nx → getH H' b = getH H b) : Stepped o L H nx (s, d, e) (.tup [d.av, i64 e]) H' n :=
  ⟨rfl, hn, ⟨L, h.keep hf hn, Moves.refl _ _⟩, fun b hb _ => hf b hb⟩
theorem lay_same {L : Lay} {q : Nat} (h : q < L.bufs.length) : ({ L with bufs := L.bufs.set q (L.bufs.getD q 0) } : Lay) = L := by
  have e : L.bufs.getD q 0 = L.bufs[q] := by simp [List.getD, h]
  rw [e, List.set_getElem_self]
theorem inc_core {s : Mach} {q : Nat} (hq : q < s.cores.length) : (s.inc q).core q = { s.core q with pc := (s.core q).pc + 1 } := by
  simp [Mach.inc, Mach.core, Mach.setCore, List.getD, hq]
theorem act_inc {o : Obj} {s : Mach} {L : Lay} {H Hc : Hp} {nx nc : Nat} (h : MAt o s L H nx) {q : Nat} (hq : q < s.cores.length) (hn : nx ≤ nc)
    (h1 : ∃ d es, getH Hc L.m = some (.row 103 8 d es) ∧ es = [machAv o s L])
    (h2 : ∃ d es, getH Hc L.c = some (.row 98 19 d es) ∧ es = (rows s L).set q (CoreS.av { s.core q with pc := (s.core q).pc + 1 } (L.bufs.getD q 0)))
    (h6 : ∀ b, b < nx → b ≠ L.c → b ∈ L.ids → getH Hc b = getH H b)
    {d : Nat} {did : DidS} (hd : DidAt L Hc nc d did) (i : Instr) {code : Int} (ok : ActOk i code s.mem.length)
    (hbl : (s.core q).buf.length < 1000) (hpl : (s.prints.length + 1) * 16 ≤ 140737488355328) :
    CallN Try.prog (actFn i.kind) [turnAv s L q d i] Hc nc (Turned o L Hc nc d (act (s.inc q) q i did).1 (act (s.inc q) q i did).2) := by
  obtain ⟨e3, h3⟩ := h.mem
  obtain ⟨e4, h4⟩ := h.pr
  obtain ⟨e5, h5⟩ := h.bufs q hq
  obtain ⟨a1, a2, a3, a4, a5, a6, a7, a8, a9, a10⟩ := h.apart hq
  obtain ⟨l1, l2, l3, l4, l5⟩ := h.lts hq
  have hqb : q < L.bufs.length := by rw [h.lens]; exact hq
  have hbm : ∀ j, j < s.cores.length → L.bufs.getD j 0 ∈ L.ids := by
    intro j hj
    simp only [Lay.ids, List.mem_cons]
    exact .inr (.inr (.inr (.inr (Lay.mem_buf (by rw [h.lens]; exact hj)))))
  obtain ⟨hM, _⟩ := h.next hq { s.core q with pc := (s.core q).pc + 1 } (L.bufs.getD q 0) s.mem s.prints hn (.inl rfl) h1 h2
    ⟨e3, _, (h6 _ l3 (Ne.symm a4) (by simp [Lay.ids])).trans h3, rfl⟩ ⟨e4, _, (h6 _ l4 (Ne.symm a5) (by simp [Lay.ids])).trans h4, rfl⟩ ⟨e5, _, (h6 _ l5 (Ne.symm a8) (hbm q hq)).trans h5, rfl⟩
    (fun j hj _ hl _ hc _ _ _ => h6 _ hl hc (hbm j hj))
  rw [lay_same hqb] at hM
  have hc := inc_core hq
  have hlen : (s.inc q).cores.length = s.cores.length := by simp [Mach.inc, Mach.setCore]
  have hA := act_call (s := s.inc q) (H := Hc) hM (q := q) (by rw [hlen]; exact hq) hd i (code := code) ok (by rw [hc]; exact hbl) hpl
  have ht : turnAv (s.inc q) L q d i = turnAv s L q d i := by simp only [turnAv, hlen]
  rw [ht] at hA
  exact hA
theorem run_out {o : Obj} {s : Mach} {L : Lay} {H : Hp} {nx : Nat} (h : MAt o s L H nx) (k : Int) (hk : out s k) : CallN Try.prog 14 [.pt L.m 1 0 0, i64 k] H nx (Stepped o L H nx (runS o s k)) := by
  refine Go.fn Try.func14 nm14 low14 res14 nt14 rfl ?_
  have he : hasE s k = 180 := by rw [hasE, if_pos hk]
  rw [runS, if_pos hk]
  repeat' (first
    | ((with_reducible refine Go.red ?_); conv => whnf)
    | (with_reducible refine Go.and ?_ ?_)
    | (with_reducible exact True.intro)
    | (with_reducible refine Go.far ?_)
    | ((with_reducible refine Apt.mk ?_); (try dsimp only); omega)
    | ((with_reducible refine Ask.mk ?_); first | exact aAsk | exact aAsk2)
    | ((with_reducible refine Go.ari64 ?_ ?_ ?_); (· exact aBnd); (· exact aBnd))
    | ((with_reducible refine Go.ariu8 ?_ ?_ ?_); (· exact aBnd); (· exact aBnd))
    | (with_reducible refine Go.ari0 ?_)
    | (apply Go.elem; (· exact aElem))
    | (apply Go.row; (· exact aRow))
    | (apply Go.gives; (· exact aGives))
    | (apply Go.gives; (· exact aRes))
    | (with_reducible refine Go.unroll ?_)
    | (with_reducible refine Go.drawn ?_)
    | ((refine Go.lookW (he ▸ has_call (h.keep aKeep aNx) k) ?_ ?_); (· exact True.intro))
    | ((refine Go.lookJ (fun _ => he ▸ has_call (h.keep aKeep aNx) k) ?_ ?_); (· exact True.intro))
    | (refine Go.gt rfl ?_)
    | (refine Go.gf rfl ?_)
    | (with_reducible refine Go.join ?_)
    | (refine Go.lt' rfl ?_)
    | (refine Go.lf' rfl ?_)
    | ((with_reducible refine Go.bool ?_ ?_) <;> intro hc <;> (try simp only [List.length_map, ne_eq, hcs] at hc) <;> try (exfalso; omega))
    | ((with_reducible refine Res.eq ?_ ?_); (· exact aFit)))
  · exact ⟨Stepped.same h aNx aKeep⟩
set_option maxRecDepth 20000 in
theorem run_lands {o : Obj} {s : Mach} {L : Lay} {H : Hp} {nx : Nat} (h : MAt o s L H nx) (g : Good o s) (ok : ObjOk o) (hpl : (s.prints.length + 1) * 16 ≤ 140737488355328) {q : Nat} (hq : q < s.cores.length) : CallN Try.prog 14 [.pt L.m 1 0 0, i64 q] H nx (Stepped o L H nx (runS o s q)) := by
  refine Go.fn Try.func14 nm14 low14 res14 nt14 rfl ?_
  have hk : ¬ out s q := by unfold out; omega
  have he : hasE s q = 0 := by rw [hasE, if_neg hk]
  rw [runS, if_neg hk, Int.toNat_natCast]
  have iok : ActOk (instrAt o s q) (o.core q).code.length o.mem.length := instrOk_act (ok.ok q (by rw [← g.n]; exact hq) (s.core q).pc.toNat (by have := g.pc q hq; omega))
  repeat' (first
    | ((with_reducible refine Go.red ?_); conv => whnf)
    | (with_reducible refine Go.and ?_ ?_)
    | (with_reducible exact True.intro)
    | (with_reducible refine Go.far ?_)
    | ((with_reducible refine Apt.mk ?_); (try dsimp only); omega)
    | ((with_reducible refine Ask.mk ?_); first | exact aAsk | exact aAsk2)
    | ((with_reducible refine Go.ari64 ?_ ?_ ?_); (· exact aBnd); (· exact aBnd))
    | ((with_reducible refine Go.ariu8 ?_ ?_ ?_); (· exact aBnd); (· exact aBnd))
    | (with_reducible refine Go.ari0 ?_)
    | (apply Go.elem; (· exact aElem))
    | (apply Go.row; (· exact aRow))
    | (apply Go.gives; (· exact aGives))
    | (apply Go.gives; (· exact aRes))
    | (with_reducible refine Go.unroll ?_)
    | (with_reducible refine Go.drawn ?_)
    | ((refine Go.lookW (he ▸ has_call (h.keep aKeep aNx) q) ?_ ?_); (· exact True.intro))
    | ((refine Go.lookJ (fun _ => he ▸ has_call (h.keep aKeep aNx) q) ?_ ?_); (· exact True.intro))
    | (refine Go.gt rfl ?_)
    | (refine Go.gf rfl ?_)
    | (with_reducible refine Go.join ?_)
    | (refine Go.lt' rfl ?_)
    | (refine Go.lf' rfl ?_)
    | ((with_reducible refine Go.bool ?_ ?_) <;> intro hc <;> (try simp only [List.length_map, ne_eq, hcs] at hc) <;> try (exfalso; omega))
    | ((with_reducible refine Res.eq ?_ ?_); (· exact aFit)))
  refine Go.callN (next_call (h.keep aKeep aNx) hq g.n (g.pc q hq) _) ?_
  rintro _ H1 n1 ⟨rfl, hn1, hfr1⟩
  have hlt := h.lts hq
  obtain ⟨f4, e4⟩ : ∃ df, getH H1 nx = some (didRow did0 df) := ⟨_, (hfr1 _ aNx).trans aRow⟩
  obtain ⟨f7, e7⟩ : ∃ df, getH H1 (nx + 1 + 1 + 1 + 1 + 1 + 1 + 1 + 1 + 1) = some (didRow { did0 with core := q } df) := ⟨_, (hfr1 _ aNx).trans aRow⟩
  have hfr : ∀ b, b < nx → getH H1 b = getH H b := fun b hb => (hfr1 b aNx).trans (by repeat (first | exact rfl | (refine Eq.trans (getH_skipEq (by omega)) ?_)))
  have hn2 : nx + 10 ≤ n1 := by omega
  have h1 : MAt o s L H1 n1 := h.keep hfr (by omega)
  rw [didRow] at e4 e7
  clear hfr1 hn1
  obtain ⟨dm, rm⟩ := h1.m
  obtain ⟨dc, rc⟩ := h1.c
  have hel := rows_len h1
  have hei := rows_at h1 hq
  obtain ⟨l1, l2, l3, l4, l5⟩ := hlt
  have hp1 : 0 ≤ (s.cores.getD q default).pc ∧ (s.cores.getD q default).pc < 16384 := by
    have p1 : 0 ≤ (s.cores.getD q default).pc ∧ (s.cores.getD q default).pc < (o.core q).code.length := g.pc q hq
    have p2 := ok.code q (by rw [← g.n]; exact hq)
    omega
  obtain ⟨a1, a2, a3, a4, a5, a6, a7, a8, a9, a10⟩ := h1.apart hq
  repeat' (first
    | ((with_reducible refine Go.red ?_); conv => whnf)
    | (with_reducible refine Go.and ?_ ?_)
    | (with_reducible exact True.intro)
    | (with_reducible refine Go.far ?_)
    | ((with_reducible refine Apt.mk ?_); (try dsimp only); omega)
    | ((with_reducible refine Ask.mk ?_); first | exact aAsk | exact aAsk2)
    | ((with_reducible refine Go.ari64 ?_ ?_ ?_); (· exact aBnd); (· exact aBnd))
    | ((with_reducible refine Go.ariu8 ?_ ?_ ?_); (· exact aBnd); (· exact aBnd))
    | (with_reducible refine Go.ari0 ?_)
    | (apply Go.elem; (· (first | exact hei _ | exact aElem)))
    | (apply Go.row; (· exact aRow))
    | (apply Go.gives; (· exact aGives))
    | (apply Go.gives; (· exact aRes))
    | (with_reducible refine Go.unroll ?_)
    | (with_reducible refine Go.drawn ?_)
    | ((refine Go.lookW (stalls_call (h1.keep aKeep aNx) hq _ (instrAt o s q)) ?_ ?_); (· exact True.intro))
    | ((refine Go.lookJ (fun _ => stalls_call (h1.keep aKeep aNx) hq _ (instrAt o s q)) ?_ ?_); (· exact True.intro))
    | ((with_reducible refine Go.callW (does_pure _ iok.kind) ?_ ?_); (· exact aFit))
    | ((with_reducible refine Go.callJ (fun _ => does_pure _ iok.kind) ?_ ?_); (· exact aFit))
    | ((with_reducible refine Go.callE (does_pure _ iok.kind) ?_ ?_); (· exact aFit))
    | ((with_reducible refine Go.callF (fun _ => does_pure _ iok.kind) ?_ ?_); (· exact aFit))
    | (refine Go.gt rfl ?_)
    | (refine Go.gf rfl ?_)
    | (with_reducible refine Go.join ?_)
    | (refine Go.lt' rfl ?_)
    | (refine Go.lf' rfl ?_)
    | ((with_reducible refine Go.bool ?_ ?_) <;> intro hc <;> (try simp only [List.length_map, ne_eq, hcs] at hc) <;> try (exfalso; omega))
    | ((with_reducible refine Res.eq ?_ ?_); (· exact aFit)))
  · rw [if_pos (by assumption)]
    exact ⟨Stepped.same h aNx (by intro _b _hb; repeat (first | exact hfr _ _hb | exact rfl | (refine Eq.trans (getH_skipEq (by first | omega | (simp only [List.length_cons, List.length_nil]; omega))) ?_)))⟩
  · rw [if_neg (fun hx => Bool.noConfusion (hx.symm.trans (show (s.core q).halted = false by assumption))), if_pos (by assumption)]
    exact ⟨Stepped.same h aNx (by intro _b _hb; repeat (first | exact hfr _ _hb | exact rfl | (refine Eq.trans (getH_skipEq (by first | omega | (simp only [List.length_cons, List.length_nil]; omega))) ?_)))⟩
  have hdo : (nx + 1 + 1 + 1 + 1 + 1 + 1 + 1 + 1 + 1) ∉ L.ids := fun hm => by have := h.lt _ hm; omega
  have hbl : (s.core q).buf.length < 1000 := by have := g.buf q hq; have := ok.buffer; omega
  refine Go.callN (act_inc (did := { did0 with core := q, pc := (s.core q).pc }) h1 hq aNx ⟨_, _, aRow, rfl⟩ ⟨_, _, aRow, rfl⟩ (by intro b hb hbc hbi; have := h.lt b hbi; repeat (first | exact rfl | (refine Eq.trans (getH_skipEq (by omega)) ?_))) ⟨aNx, hdo, ⟨_, aRow⟩⟩ (instrAt o s q) (by rw [g.mem]; exact iok) hbl hpl) ?_
  rintro _ H2 n2 ⟨hn3, ⟨L', hM, hmv⟩, ⟨fd, hdr⟩, hfr2⟩
  have hnx : nx ∉ L.ids := fun hm => by have := h.lt _ hm; omega
  have hn4 : nx + 11 ≤ n2 := Nat.le_trans aNx hn3
  have e4b : getH H2 nx = some (.row 33 7 f4 [did0.av]) := (hfr2 nx aNx hnx (by omega)).trans aRow
  have hfr3 : ∀ b, b < nx → b ∉ L.ids → getH H2 b = getH H b := fun b hb hbo => by
    obtain ⟨o1, o2, o3, o4, o5⟩ := Lay.out hbo (q := q) (by rw [h.lens]; exact hq)
    exact (hfr2 b aNx hbo (by omega)).trans (by repeat (first | exact hfr b hb | (refine Eq.trans (getH_skipEq (by omega)) ?_)))
  have hmv2 : ∀ b, b ∈ L'.ids → b ∈ L.ids ∨ nx + 1 ≤ b := fun b hb => (hmv.ids b hb).imp id (fun hh => Nat.le_trans aNx hh)
  have hmm := hmv.m
  rw [didRow] at hdr
  clear hfr2 hmv hn3
  repeat' (first
    | ((with_reducible refine Go.red ?_); conv => whnf)
    | (with_reducible refine Go.and ?_ ?_)
    | (with_reducible exact True.intro)
    | (with_reducible refine Go.far ?_)
    | ((with_reducible refine Apt.mk ?_); (try dsimp only); omega)
    | ((with_reducible refine Ask.mk ?_); first | exact aAsk | exact aAsk2)
    | ((with_reducible refine Go.ari64 ?_ ?_ ?_); (· exact aBnd); (· exact aBnd))
    | ((with_reducible refine Go.ariu8 ?_ ?_ ?_); (· exact aBnd); (· exact aBnd))
    | (with_reducible refine Go.ari0 ?_)
    | (apply Go.elem; (· exact aElem))
    | (apply Go.row; (· exact aRow))
    | (apply Go.gives; (· exact aGives))
    | (apply Go.gives; (· exact aRes))
    | (with_reducible refine Go.unroll ?_)
    | (with_reducible refine Go.drawn ?_)
    | (refine Go.gt rfl ?_)
    | (refine Go.gf rfl ?_)
    | (with_reducible refine Go.join ?_)
    | (refine Go.lt' rfl ?_)
    | (refine Go.lf' rfl ?_)
    | ((with_reducible refine Go.bool ?_ ?_) <;> intro hc <;> (try simp only [List.length_map, ne_eq, hcs] at hc) <;> try (exfalso; omega))
    | ((with_reducible refine Res.eq ?_ ?_); (· exact aFit)))
  rw [if_neg (fun hx => Bool.noConfusion (hx.symm.trans (show (s.core q).halted = false by assumption))), if_neg (fun hx => Bool.noConfusion (hx.symm.trans (show stallsF o s q (instrAt o s q) = false by assumption)))]
  refine ⟨⟨rfl, aNx, ⟨L', hM.keepIds (fun b hb => ?_) aNx, ⟨hmm, fun b hb => (hmv2 b hb).imp id (fun hh => by omega)⟩⟩, fun b hb hbo => ?_⟩⟩
  · have hne : b ≠ nx := fun he => (hmv2 b hb).elim (fun hh => hnx (he ▸ hh)) (fun hh => by omega)
    repeat (first | exact rfl | (refine Eq.trans (getH_skipEq (by omega)) ?_))
  · repeat (first | exact hfr3 b hb hbo | (refine Eq.trans (getH_skipEq (by omega)) ?_))
theorem run_call {o : Obj} {s : Mach} {L : Lay} {H : Hp} {nx : Nat} (h : MAt o s L H nx) (g : Good o s) (ok : ObjOk o) (hpl : (s.prints.length + 1) * 16 ≤ 140737488355328) (k : Int) : CallN Try.prog 14 [.pt L.m 1 0 0, i64 k] H nx (Stepped o L H nx (runS o s k)) := by
  by_cases hk : out s k
  · exact run_out h k hk
  · have h2 : k = (k.toNat : Int) := by unfold out at hk; omega
    rw [h2]
    exact run_lands h g ok hpl (by unfold out at hk; omega)
end Go.Proofs.Ytliabecchkolgaa
