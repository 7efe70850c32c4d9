/- Which turn, and what it does. -/
import Derived.Test.YtliabecchkolgaaVh
namespace Go.Proofs.Ytliabecchkolgaa
open Go Go.Abs Go.Proofs
set_option linter.unusedSimpArgs false
set_option linter.unusedVariables false
def out (s : Mach) (k : Int) : Prop := k < 0 ∨ (s.cores.length : Int) ≤ k
instance (s : Mach) (k : Int) : Decidable (out s k) := by unfold out; infer_instance
def hasE (s : Mach) (k : Int) : Int := if out s k then 180 else 0
theorem has_call {o : Obj} {s : Mach} {L : Lay} {H : Hp} {nx : Nat} (h : MAt o s L H nx) (k : Int) : Look Try.prog 35 [.pt L.m 1 0 0, i64 k] H nx (i64 (hasE s k)) := by
  refine Go.lookAt Try.func35 nm35 low35 res35 nt35 rfl ?_
  obtain ⟨dm, hm⟩ := h.m
  obtain ⟨dc, hc⟩ := h.c
  have hel := rows_len h
  repeat' (first
    | ((with_reducible refine Go.red ?_); conv => whnf)
    | (with_reducible refine Go.and ?_ ?_)
    | (with_reducible exact True.intro)
    | (with_reducible refine Go.far ?_)
    | ((with_reducible refine Apt.mk ?_); (try dsimp only); omega)
    | ((with_reducible refine Ask.mk ?_); first | exact aAsk | exact aAsk2)
    | ((with_reducible refine Go.ari64 ?_ ?_ ?_); (· exact aBnd); (· exact aBnd))
    | ((with_reducible refine Go.ariu8 ?_ ?_ ?_); (· exact aBnd); (· exact aBnd))
    | (with_reducible refine Go.ari0 ?_)
    | (apply Go.elem; (· exact aElem))
    | (apply Go.row; (· exact aRow))
    | (apply Go.gives; (· exact aGives))
    | (apply Go.gives; (· exact aRes))
    | (with_reducible refine Go.unroll ?_)
    | (refine Go.gt rfl ?_)
    | (refine Go.gf rfl ?_)
    | (with_reducible refine Go.join ?_)
    | (refine Go.lt' rfl ?_)
    | (refine Go.lf' rfl ?_)
    | ((with_reducible refine Go.bool ?_ ?_) <;> intro hc <;> (try simp only [List.length_map, ne_eq, hcs] at hc) <;> try (exfalso; omega))
    | ((with_reducible refine Res.eq ?_ ?_); (· exact aFit)))
  · refine ResN.look ?_ aKeep
    rw [hasE, if_pos (by unfold out; omega)]
  · refine ResN.look ?_ aKeep
    rw [hasE, if_neg (by unfold out; omega)]
abbrev Obj.core (o : Obj) (q : Nat) : Core := o.cores.getD q default
def instrAt (o : Obj) (s : Mach) (q : Nat) : Instr := (o.core q).code.getD (s.core q).pc.toNat default
abbrev turnP (s : Mach) (L : Lay) (q : Nat) (d : AV) (i : Instr) : AV := .agg [.pt L.m 1 0 0, .pt L.c s.cores.length q 0, u8 i.kind, u8 i.op, i64 i.d, i64 i.a, i64 i.b, i64 i.addr, i64 i.to, i64 i.word, i64 i.fr, d]
def Kept (H : Hp) (nx : Nat) (r0 : AV) : AV → Hp → Nat → Prop := fun r H' n => r = r0 ∧ nx ≤ n ∧ ∀ b, b < nx → getH H' b = getH H b
theorem next_call {o : Obj} {s : Mach} {L : Lay} {H : Hp} {nx : Nat} (h : MAt o s L H nx) {q : Nat} (hq : q < s.cores.length) (hn : s.cores.length = o.cores.length) (hpc : 0 ≤ (s.core q).pc ∧ (s.core q).pc < (o.core q).code.length) (d : Nat) :
    CallN Try.prog 36 [.pt L.m 1 0 0, i64 q, .pt d 1 0 0] H nx (Kept H nx (turnP s L q (.pt d 1 0 0) (instrAt o s q))) := by
  refine Go.fn Try.func36 nm36 low36 res36 nt36 rfl ?_
  obtain ⟨dm, hm⟩ := h.m
  obtain ⟨dc, hc⟩ := h.c
  have hel := rows_len h
  have hei := rows_at h hq
  obtain ⟨l1, l2, l3, l4, l5⟩ := h.lts hq
  have hqo : q < o.cores.length := by omega
  have hpc2 : (s.cores.getD q default).pc.toNat < (o.cores.getD q default).code.length := by
    have h1 : (s.cores.getD q default).pc < (o.cores.getD q default).code.length := hpc.2
    have h2 : 0 ≤ (s.cores.getD q default).pc := hpc.1
    omega
  have hpc3 : 0 ≤ (s.cores.getD q default).pc := hpc.1
  repeat' (first
    | ((with_reducible refine Go.red ?_); conv => whnf)
    | (with_reducible refine Go.and ?_ ?_)
    | (with_reducible exact True.intro)
    | (with_reducible refine Go.far ?_)
    | ((with_reducible refine Apt.mk ?_); (try dsimp only); omega)
    | ((with_reducible refine Ask.mk ?_); first | exact aAsk | exact aAsk2)
    | ((with_reducible refine Go.ari64 ?_ ?_ ?_); (· exact aBnd); (· exact aBnd))
    | ((with_reducible refine Go.ariu8 ?_ ?_ ?_); (· exact aBnd); (· exact aBnd))
    | (with_reducible refine Go.ari0 ?_)
    | (apply Go.elem; (· (first | exact hei _ | exact getD_av _ _ _ _ hpc2 | exact aElem)))
    | (apply Go.row; (· exact aRow))
    | (apply Go.gives; (· exact aGives))
    | (apply Go.gives; (· exact aRes))
    | (with_reducible refine Go.unroll ?_)
    | (refine Go.gt rfl ?_)
    | (refine Go.gf rfl ?_)
    | (with_reducible refine Go.join ?_)
    | (refine Go.lt' rfl ?_)
    | (refine Go.lf' rfl ?_)
    | ((with_reducible refine Go.bool ?_ ?_) <;> intro hc <;> (try simp only [List.length_map, ne_eq, hcs] at hc) <;> try (exfalso; omega))
    | ((with_reducible refine Res.eq ?_ ?_); (· exact aFit)))
  exact ⟨⟨rfl, aNx, aKeep⟩⟩
theorem next_nil {o : Obj} {s : Mach} {L : Lay} {H : Hp} {nx : Nat} (h : MAt o s L H nx) {q : Nat} (hq : q < s.cores.length) (hn : s.cores.length = o.cores.length) (hpc : 0 ≤ (s.core q).pc ∧ (s.core q).pc < (o.core q).code.length) :
    CallN Try.prog 36 [.pt L.m 1 0 0, i64 q, .sc (.pointer none)] H nx (Kept H nx (turnP s L q (.sc (.pointer none)) (instrAt o s q))) := by
  refine Go.fn Try.func36 nm36 low36 res36 nt36 rfl ?_
  obtain ⟨dm, hm⟩ := h.m
  obtain ⟨dc, hc⟩ := h.c
  have hel := rows_len h
  have hei := rows_at h hq
  obtain ⟨l1, l2, l3, l4, l5⟩ := h.lts hq
  have hqo : q < o.cores.length := by omega
  have hpc2 : (s.cores.getD q default).pc.toNat < (o.cores.getD q default).code.length := by
    have h1 : (s.cores.getD q default).pc < (o.cores.getD q default).code.length := hpc.2
    have h2 : 0 ≤ (s.cores.getD q default).pc := hpc.1
    omega
  have hpc3 : 0 ≤ (s.cores.getD q default).pc := hpc.1
  repeat' (first
    | ((with_reducible refine Go.red ?_); conv => whnf)
    | (with_reducible refine Go.and ?_ ?_)
    | (with_reducible exact True.intro)
    | (with_reducible refine Go.far ?_)
    | ((with_reducible refine Apt.mk ?_); (try dsimp only); omega)
    | ((with_reducible refine Ask.mk ?_); first | exact aAsk | exact aAsk2)
    | ((with_reducible refine Go.ari64 ?_ ?_ ?_); (· exact aBnd); (· exact aBnd))
    | ((with_reducible refine Go.ariu8 ?_ ?_ ?_); (· exact aBnd); (· exact aBnd))
    | (with_reducible refine Go.ari0 ?_)
    | (apply Go.elem; (· (first | exact hei _ | exact getD_av _ _ _ _ hpc2 | exact aElem)))
    | (apply Go.row; (· exact aRow))
    | (apply Go.gives; (· exact aGives))
    | (apply Go.gives; (· exact aRes))
    | (with_reducible refine Go.unroll ?_)
    | (refine Go.gt rfl ?_)
    | (refine Go.gf rfl ?_)
    | (with_reducible refine Go.join ?_)
    | (refine Go.lt' rfl ?_)
    | (refine Go.lf' rfl ?_)
    | ((with_reducible refine Go.bool ?_ ?_) <;> intro hc <;> (try simp only [List.length_map, ne_eq, hcs] at hc) <;> try (exfalso; omega))
    | ((with_reducible refine Res.eq ?_ ?_); (· exact aFit)))
  exact ⟨⟨rfl, aNx, aKeep⟩⟩
def stallsF (o : Obj) (s : Mach) (q : Nat) (i : Instr) : Bool := if i.kind = 4 then decide (o.buffer ≤ (s.core q).buf.length) else if i.kind = 5 ∨ i.kind = 6 ∨ i.kind = 7 then decide ((0 : Int) < (s.core q).buf.length) else false
theorem stalls_call {o : Obj} {s : Mach} {L : Lay} {H : Hp} {nx : Nat} (h : MAt o s L H nx) {q : Nat} (hq : q < s.cores.length) (d : Nat) (i : Instr) :
    Look Try.prog 37 [turnP s L q (.pt d 1 0 0) i] H nx (bl (stallsF o s q i)) := by
  refine Go.lookAt Try.func37 nm37 low37 res37 nt37 rfl ?_
  obtain ⟨dm, hm⟩ := h.m
  obtain ⟨dc, hc⟩ := h.c
  obtain ⟨db, hb⟩ := h.bufs q hq
  have hel := rows_len h
  have hei := rows_at h hq
  obtain ⟨l1, l2, l3, l4, l5⟩ := h.lts hq
  repeat' (first
    | ((with_reducible refine Go.red ?_); conv => whnf)
    | (with_reducible refine Go.and ?_ ?_)
    | (with_reducible exact True.intro)
    | (with_reducible refine Go.far ?_)
    | ((with_reducible refine Apt.mk ?_); (try dsimp only); omega)
    | ((with_reducible refine Ask.mk ?_); first | exact aAsk | exact aAsk2)
    | ((with_reducible refine Go.ari64 ?_ ?_ ?_); (· exact aBnd); (· exact aBnd))
    | ((with_reducible refine Go.ariu8 ?_ ?_ ?_); (· exact aBnd); (· exact aBnd))
    | (with_reducible refine Go.ari0 ?_)
    | (apply Go.elem; (· (first | exact hei _ | exact aElem)))
    | (apply Go.row; (· exact aRow))
    | (apply Go.gives; (· exact aGives))
    | (apply Go.gives; (· exact aRes))
    | (with_reducible refine Go.unroll ?_)
    | (refine Go.gt rfl ?_)
    | (refine Go.gf rfl ?_)
    | (with_reducible refine Go.join ?_)
    | (refine Go.lt' rfl ?_)
    | (refine Go.lf' rfl ?_)
    | ((with_reducible refine Go.bool ?_ ?_) <;> intro hc <;> (try simp only [List.length_map, ne_eq, hcs] at hc) <;> try (exfalso; omega))
    | ((with_reducible refine Res.eq ?_ ?_); (· exact aFit)))
  all_goals refine ResN.look ?_ aKeep
  all_goals simp only [stallsF]
  · rw [if_pos (by assumption)]
  · rw [if_neg (by omega), if_pos (by omega)]
  · rw [if_neg (by omega), if_pos (by omega)]
  · rw [if_neg (by omega), if_pos (by omega)]
  · rw [if_neg (by omega), if_neg (by omega)]
theorem stalls_nil {o : Obj} {s : Mach} {L : Lay} {H : Hp} {nx : Nat} (h : MAt o s L H nx) {q : Nat} (hq : q < s.cores.length) (i : Instr) :
    Look Try.prog 37 [turnP s L q (.sc (.pointer none)) i] H nx (bl (stallsF o s q i)) := by
  refine Go.lookAt Try.func37 nm37 low37 res37 nt37 rfl ?_
  obtain ⟨dm, hm⟩ := h.m
  obtain ⟨dc, hc⟩ := h.c
  obtain ⟨db, hb⟩ := h.bufs q hq
  have hel := rows_len h
  have hei := rows_at h hq
  obtain ⟨l1, l2, l3, l4, l5⟩ := h.lts hq
  repeat' (first
    | ((with_reducible refine Go.red ?_); conv => whnf)
    | (with_reducible refine Go.and ?_ ?_)
    | (with_reducible exact True.intro)
    | (with_reducible refine Go.far ?_)
    | ((with_reducible refine Apt.mk ?_); (try dsimp only); omega)
    | ((with_reducible refine Ask.mk ?_); first | exact aAsk | exact aAsk2)
    | ((with_reducible refine Go.ari64 ?_ ?_ ?_); (· exact aBnd); (· exact aBnd))
    | ((with_reducible refine Go.ariu8 ?_ ?_ ?_); (· exact aBnd); (· exact aBnd))
    | (with_reducible refine Go.ari0 ?_)
    | (apply Go.elem; (· (first | exact hei _ | exact aElem)))
    | (apply Go.row; (· exact aRow))
    | (apply Go.gives; (· exact aGives))
    | (apply Go.gives; (· exact aRes))
    | (with_reducible refine Go.unroll ?_)
    | (refine Go.gt rfl ?_)
    | (refine Go.gf rfl ?_)
    | (with_reducible refine Go.join ?_)
    | (refine Go.lt' rfl ?_)
    | (refine Go.lf' rfl ?_)
    | ((with_reducible refine Go.bool ?_ ?_) <;> intro hc <;> (try simp only [List.length_map, ne_eq, hcs] at hc) <;> try (exfalso; omega))
    | ((with_reducible refine Res.eq ?_ ?_); (· exact aFit)))
  all_goals refine ResN.look ?_ aKeep
  all_goals simp only [stallsF]
  · rw [if_pos (by assumption)]
  · rw [if_neg (by omega), if_pos (by omega)]
  · rw [if_neg (by omega), if_pos (by omega)]
  · rw [if_neg (by omega), if_pos (by omega)]
  · rw [if_neg (by omega), if_neg (by omega)]
def actFn (k : Int) : FuncId := if k = 1 then 51 else if k = 2 then 52 else if k = 3 then 53 else if k = 4 then 54 else if k = 5 then 55 else if k = 6 then 56 else if k = 7 then 57 else if k = 8 then 58 else if k = 9 then 59 else 60
def act (s : Mach) (q : Nat) (i : Instr) (did : DidS) : Mach × DidS := if i.kind = 1 then doSet s q i did else if i.kind = 2 then doOp s q i did else if i.kind = 3 then doLoad s q i did else if i.kind = 4 then doStore s q i did else if i.kind = 5 then doSwap s q i did else if i.kind = 6 then doFence s q i did else if i.kind = 7 then doPrint s q i did else if i.kind = 8 then doJump s q i did else if i.kind = 9 then doZero s q i did else doHalt s q i did
theorem kinds {k : Int} (h : 1 ≤ k ∧ k ≤ 10) : k = 1 ∨ k = 2 ∨ k = 3 ∨ k = 4 ∨ k = 5 ∨ k = 6 ∨ k = 7 ∨ k = 8 ∨ k = 9 ∨ k = 10 := by omega
theorem does_pure (k : Int) (h : 1 ≤ k ∧ k ≤ 10) : Pure Try.prog 38 [u8 k] (fun r => r = .fn (.func (actFn k)) [] []) := by
  rcases kinds h with rfl | rfl | rfl | rfl | rfl | rfl | rfl | rfl | rfl | rfl
  all_goals exact run_pure2 (by simp [fitA, fitL]) (by kernel_rfl)
structure ActOk (i : Instr) (code mem : Int) : Prop where
  kind : 1 ≤ i.kind ∧ i.kind ≤ 10
  d : 0 ≤ i.d ∧ i.d < 16
  a : 0 ≤ i.a ∧ i.a < 16
  b : 0 ≤ i.b ∧ i.b < 16
  op : i.kind = 2 → 1 ≤ i.op ∧ i.op ≤ 18
  addr : i.kind = 3 ∨ i.kind = 4 ∨ i.kind = 5 → 0 ≤ i.addr ∧ i.addr < mem
  to : i.kind = 8 ∨ i.kind = 9 → 0 ≤ i.to ∧ i.to < code
theorem within_16 {u : Bool} {n : Int} (h : within u n 16 = true) : 0 ≤ n ∧ n < 16 := by
  simp only [within, Bool.or_eq_true, Bool.and_eq_true, decide_eq_true_eq] at h; omega
theorem within_t {n m : Int} (h : within true n m = true) : 0 ≤ n ∧ n < m := by
  simpa [within] using h
theorem instrOk_act {i : Instr} {code mem : Int} (h : instrOk i code mem = true) : ActOk i code mem := by
  simp only [instrOk, Bool.and_eq_true] at h
  obtain ⟨⟨⟨⟨⟨⟨⟨⟨⟨h1, _⟩, _⟩, h2⟩, h3⟩, h4⟩, h5⟩, h6⟩, h7⟩, _⟩ := h
  have hk : 1 ≤ i.kind ∧ i.kind ≤ 10 := by simpa [kindOk] using h1
  refine ⟨hk, within_16 h3, within_16 h4, within_16 h5, ?_, ?_, ?_⟩
  · intro h; simpa [h] using h2
  · rintro (h | h | h) <;> rw [h] at h6
    · rw [show mask 3 i.op = 18 from rfl, show decide (bitOf 18 16 ≠ 0) = true by decide] at h6; exact within_t h6
    · rw [show mask 4 i.op = 20 from rfl, show decide (bitOf 20 16 ≠ 0) = true by decide] at h6; exact within_t h6
    · rw [show mask 5 i.op = 18 from rfl, show decide (bitOf 18 16 ≠ 0) = true by decide] at h6; exact within_t h6
  · rintro (h | h) <;> rw [h] at h7
    · rw [show mask 8 i.op = 32 from rfl, show decide (bitOf 32 32 ≠ 0) = true by decide] at h7; exact within_t h7
    · rw [show mask 9 i.op = 36 from rfl, show decide (bitOf 36 32 ≠ 0) = true by decide] at h7; exact within_t h7
theorem act_call {o : Obj} {s : Mach} {L : Lay} {H : Hp} {nx : Nat} (h : MAt o s L H nx) {q : Nat} (hq : q < s.cores.length) {d : Nat} {did : DidS} (hd : DidAt L H nx d did) (i : Instr) {code : Int} (ok : ActOk i code s.mem.length)
    (hbl : (s.core q).buf.length < 1000) (hpl : (s.prints.length + 1) * 16 ≤ 140737488355328) :
    CallN Try.prog (actFn i.kind) [turnAv s L q d i] H nx (Turned o L H nx d (act s q i did).1 (act s q i did).2) := by
  have hk := kinds ok.kind
  by_cases k1 : i.kind = 1
  · simp only [actFn, act, if_pos k1]; exact set_call h hq hd i ok.d
  by_cases k2 : i.kind = 2
  · simp only [actFn, act, if_neg k1, if_pos k2]
    have ho := ok.op k2
    by_cases ht : two i.op = true
    · exact op_two h hq hd i ok.d ok.a ok.b ht
    · have ht : two i.op = false := by simpa using ht
      refine op_one h hq hd i ok.d ok.a ok.b ht ?_
      simp only [two, Bool.and_eq_false_iff, decide_eq_false_iff_not] at ht; omega
  by_cases k3 : i.kind = 3
  · simp only [actFn, act, if_neg k1, if_neg k2, if_pos k3]; exact load_call h hq hd i ok.d (ok.addr (by omega)) hbl
  by_cases k4 : i.kind = 4
  · simp only [actFn, act, if_neg k1, if_neg k2, if_neg k3, if_pos k4]; exact store_call h hq hd i ok.a hbl
  by_cases k5 : i.kind = 5
  · simp only [actFn, act, if_neg k1, if_neg k2, if_neg k3, if_neg k4, if_pos k5]; exact swap_call h hq hd i ok.d (ok.addr (by omega))
  by_cases k6 : i.kind = 6
  · simp only [actFn, act, if_neg k1, if_neg k2, if_neg k3, if_neg k4, if_neg k5, if_pos k6]; exact fence_call h hq hd i
  by_cases k7 : i.kind = 7
  · simp only [actFn, act, if_neg k1, if_neg k2, if_neg k3, if_neg k4, if_neg k5, if_neg k6, if_pos k7]; exact print_call h hq hd i ok.a hpl
  by_cases k8 : i.kind = 8
  · simp only [actFn, act, if_neg k1, if_neg k2, if_neg k3, if_neg k4, if_neg k5, if_neg k6, if_neg k7, if_pos k8]; exact jump_call h hq hd i
  by_cases k9 : i.kind = 9
  · simp only [actFn, act, if_neg k1, if_neg k2, if_neg k3, if_neg k4, if_neg k5, if_neg k6, if_neg k7, if_neg k8, if_pos k9]; exact zero_call h hq hd i ok.a
  simp only [actFn, act, if_neg k1, if_neg k2, if_neg k3, if_neg k4, if_neg k5, if_neg k6, if_neg k7, if_neg k8, if_neg k9]; exact halt_call h hq hd i
end Go.Proofs.Ytliabecchkolgaa
