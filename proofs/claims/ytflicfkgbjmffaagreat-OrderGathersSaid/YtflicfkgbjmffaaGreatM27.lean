import Derived.Test.YtflicfkgbjmffaaGreatM26
import Derived.Test.YtflicfkgbjmffaaGreatM18
section
/- Which turn, and what it does. -/
namespace Go.Proofs.YtflicfkgbjmffaaGreat.V
open Go Go.Abs Go.Proofs
set_option linter.unusedSimpArgs false
set_option linter.unusedVariables false
def out (s:Mach) (k:Int):Prop:=k < 0 ∨ (s.cores.length:Int) ≤ k
instance (s:Mach) (k:Int):Decidable (out s k):=by unfold out;infer_instance
def hasE (s:Mach) (k:Int):Int:=if out s k then 180 else 0
theorem has_call {o:Obj} {s:Mach} {L:Lay} {H:Hp} {nx:Nat} (h:MAt o s L H nx) (k:Int):Look Tryz.prog 73 [.pt L.m 1 0 0,i64 k] H nx (i64 (hasE s k)):=by
 refine Go.lookAtL lf73 rfl ?_
 obtain ⟨dm,hm⟩:=h.m
 obtain ⟨dc,hc⟩:=h.c
 have hel:=rows_len h
 repeat' (first|((with_reducible refine Go.red ?_);conv => whnf)|refine aG ?_|exact aC|with_reducible refine Go.and ?_ ?_|(apply Go.elem;(·exact aElem))|refine aH ?_|((with_reducible refine Go.bool ?_ ?_) <;> intro hc <;> (try simp only [List.length_map,ne_eq,hcs] at hc) <;> try (exfalso;omega)))
 ·refine ResN.look ?_ aKeep
  rw [hasE,if_pos (by unfold out;omega)]
 ·refine ResN.look ?_ aKeep
  rw [hasE,if_neg (by unfold out;omega)]
abbrev Obj.core (o:Obj) (q:Nat):Core:=o.cores.getD q default
def instrAt (o:Obj) (s:Mach) (q:Nat):Instr:=(o.core q).code.getD (s.core q).pc.toNat default
abbrev turnP (s:Mach) (L:Lay) (q:Nat) (d:AV) (i:Instr):AV:=.agg [.pt L.m 1 0 0,.pt L.c s.cores.length q 0,u8 i.kind,u8 i.op,i64 i.d,i64 i.a,i64 i.b,i64 i.addr,i64 i.to,i64 i.word,i64 i.fr,d]
def Kept (H:Hp) (nx:Nat) (r0:AV):AV→Hp→Nat→Prop:=fun r H' n => r = r0∧nx ≤ n∧∀ b,b < nx→getH H' b = getH H b
theorem next_call {o:Obj} {s:Mach} {L:Lay} {H:Hp} {nx:Nat} (h:MAt o s L H nx) {q:Nat} (hq:q < s.cores.length) (hn:s.cores.length = o.cores.length) (hpc:0 ≤ (s.core q).pc∧(s.core q).pc < (o.core q).code.length) (d:Nat) :
  CallN Tryz.prog 74 [.pt L.m 1 0 0,i64 q,.pt d 1 0 0] H nx (Kept H nx (turnP s L q (.pt d 1 0 0) (instrAt o s q))):=by
 refine Go.fnL lf74 rfl ?_
 obtain ⟨dm,hm⟩:=h.m
 obtain ⟨dc,hc⟩:=h.c
 have hel:=rows_len h
 have hei:=rows_at h hq
 obtain ⟨l1,l2,l3,l4,l5⟩:=h.lts hq
 have hqo:q < o.cores.length:=by omega
 have hpc2:(s.cores.getD q default).pc.toNat < (o.cores.getD q default).code.length:=by
  have h1:(s.cores.getD q default).pc < (o.cores.getD q default).code.length:=hpc.2
  have h2:0 ≤ (s.cores.getD q default).pc:=hpc.1
  omega
 have hpc3:0 ≤ (s.cores.getD q default).pc:=hpc.1
 repeat' (first|((with_reducible refine Go.red ?_);conv => whnf)|refine aG ?_|exact aC|with_reducible refine Go.and ?_ ?_|(apply Go.elem;(·(first|exact hei _|exact getD_av _ _ _ _ hpc2|exact aElem)))|refine aH ?_|((with_reducible refine Go.bool ?_ ?_) <;> intro hc <;> (try simp only [List.length_map,ne_eq,hcs] at hc) <;> try (exfalso;omega)))
 exact ⟨⟨rfl,aNx,aKeep⟩⟩
def stallsF (o:Obj) (s:Mach) (q:Nat) (i:Instr):Bool:=if i.kind = 4 then decide (o.buffer ≤ (s.core q).buf.length) else if i.kind = 5 ∨ i.kind = 6 ∨ i.kind = 7 then decide ((0:Int) < (s.core q).buf.length) else false
theorem stalls_call {o:Obj} {s:Mach} {L:Lay} {H:Hp} {nx:Nat} (h:MAt o s L H nx) {q:Nat} (hq:q < s.cores.length) (d:Nat) (i:Instr) :
  Look Tryz.prog 75 [turnP s L q (.pt d 1 0 0) i] H nx (bl (stallsF o s q i)):=by
 refine Go.lookAtL lf75 rfl ?_
 obtain ⟨dm,hm⟩:=h.m
 obtain ⟨dc,hc⟩:=h.c
 obtain ⟨db,hb⟩:=h.bufs q hq
 have hel:=rows_len h
 have hei:=rows_at h hq
 obtain ⟨l1,l2,l3,l4,l5⟩:=h.lts hq
 repeat' (first|((with_reducible refine Go.red ?_);conv => whnf)|refine aG ?_|exact aC|with_reducible refine Go.and ?_ ?_|(apply Go.elem;(·(first|exact hei _|exact aElem)))|refine aH ?_|((with_reducible refine Go.bool ?_ ?_) <;> intro hc <;> (try simp only [List.length_map,ne_eq,hcs] at hc) <;> try (exfalso;omega)))
 all_goals refine ResN.look ?_ aKeep
 all_goals simp only [stallsF]
 ·rw [if_pos (by assumption)]
 ·rw [if_neg (by omega),if_pos (by omega)]
 ·rw [if_neg (by omega),if_pos (by omega)]
 ·rw [if_neg (by omega),if_pos (by omega)]
 ·rw [if_neg (by omega),if_neg (by omega)]
def actFn (k:Int):FuncId:=if k = 1 then 87 else if k = 2 then 88 else if k = 3 then 89 else if k = 4 then 90 else if k = 5 then 91 else if k = 6 then 92 else if k = 7 then 93 else if k = 8 then 94 else if k = 9 then 95 else 96
def act (s:Mach) (q:Nat) (i:Instr) (did:DidS):Mach × DidS:=if i.kind = 1 then doSet s q i did else if i.kind = 2 then doOp s q i did else if i.kind = 3 then doLoad s q i did else if i.kind = 4 then doStore s q i did else if i.kind = 5 then doSwap s q i did else if i.kind = 6 then doFence s q i did else if i.kind = 7 then doPrint s q i did else if i.kind = 8 then doJump s q i did else if i.kind = 9 then doZero s q i did else doHalt s q i did
theorem kinds {k:Int} (h:1 ≤ k∧k ≤ 10):k = 1 ∨ k = 2 ∨ k = 3 ∨ k = 4 ∨ k = 5 ∨ k = 6 ∨ k = 7 ∨ k = 8 ∨ k = 9 ∨ k = 10:=by omega
theorem does_pure (k:Int) (h:1 ≤ k∧k ≤ 10):Pure Tryz.prog 76 [u8 k] (fun r => r = .fn (.func (actFn k)) [] []):=by
 rcases kinds h with rfl|rfl|rfl|rfl|rfl|rfl|rfl|rfl|rfl|rfl
 all_goals exact run_pure2 (by simp [fitA,fitL]) (by kernel_rfl)
structure ActOk (i:Instr) (code mem:Int):Prop where
 kind:1 ≤ i.kind∧i.kind ≤ 10
 d:0 ≤ i.d∧i.d < 16
 a:0 ≤ i.a∧i.a < 16
 b:0 ≤ i.b∧i.b < 16
 op:i.kind = 2→1 ≤ i.op∧i.op ≤ 18
 addr:i.kind = 3 ∨ i.kind = 4 ∨ i.kind = 5→0 ≤ i.addr∧i.addr < mem
 to:i.kind = 8 ∨ i.kind = 9→0 ≤ i.to∧i.to < code
theorem within_16 {u:Bool} {n:Int} (h:within u n 16 = true):0 ≤ n∧n < 16:=by
 simp only [within,Bool.or_eq_true,Bool.and_eq_true,decide_eq_true_eq] at h;omega
theorem within_t {n m:Int} (h:within true n m = true):0 ≤ n∧n < m:=by
 simpa [within] using h
theorem instrOk_act {i:Instr} {code mem:Int} (h:instrOk i code mem = true):ActOk i code mem:=by
 simp only [instrOk,Bool.and_eq_true] at h
 obtain ⟨⟨⟨⟨⟨⟨⟨⟨⟨h1,_⟩,_⟩,h2⟩,h3⟩,h4⟩,h5⟩,h6⟩,h7⟩,_⟩:=h
 have hk:1 ≤ i.kind∧i.kind ≤ 10:=by simpa [kindOk] using h1
 refine ⟨hk,within_16 h3,within_16 h4,within_16 h5,?_,?_,?_⟩
 ·intro h;simpa [h] using h2
 ·rintro (h|h|h) <;> rw [h] at h6
  ·rw [show mask 3 i.op = 18 from rfl,show decide (bitOf 18 16 ≠ 0) = true by decide] at h6;exact within_t h6
  ·rw [show mask 4 i.op = 20 from rfl,show decide (bitOf 20 16 ≠ 0) = true by decide] at h6;exact within_t h6
  ·rw [show mask 5 i.op = 18 from rfl,show decide (bitOf 18 16 ≠ 0) = true by decide] at h6;exact within_t h6
 ·rintro (h|h) <;> rw [h] at h7
  ·rw [show mask 8 i.op = 32 from rfl,show decide (bitOf 32 32 ≠ 0) = true by decide] at h7;exact within_t h7
  ·rw [show mask 9 i.op = 36 from rfl,show decide (bitOf 36 32 ≠ 0) = true by decide] at h7;exact within_t h7
theorem act_call {o:Obj} {s:Mach} {L:Lay} {H:Hp} {nx:Nat} (h:MAt o s L H nx) {q:Nat} (hq:q < s.cores.length) {d:Nat} {did:DidS} (hd:DidAt L H nx d did) (i:Instr) {code:Int} (ok:ActOk i code s.mem.length)
  (hbl:(s.core q).buf.length < 1000) (hpl:(s.prints.length + 1) * 16 ≤ 140737488355328) :
  CallN Tryz.prog (actFn i.kind) [turnAv s L q d i] H nx (Turned o L H nx d (act s q i did).1 (act s q i did).2):=by
 have hk:=kinds ok.kind
 by_cases k1:i.kind = 1
 ·simp only [actFn,act,if_pos k1];exact set_call h hq hd i ok.d
 by_cases k2:i.kind = 2
 ·simp only [actFn,act,if_neg k1,if_pos k2]
  have ho:=ok.op k2
  by_cases ht:two i.op = true
  ·exact op_two h hq hd i ok.d ok.a ok.b ht
  ·have ht:two i.op = false:=by simpa using ht
   refine op_one h hq hd i ok.d ok.a ok.b ht ?_
   simp only [two,Bool.and_eq_false_iff,decide_eq_false_iff_not] at ht;omega
 by_cases k3:i.kind = 3
 ·simp only [actFn,act,if_neg k1,if_neg k2,if_pos k3];exact load_call h hq hd i ok.d (ok.addr (by omega)) hbl
 by_cases k4:i.kind = 4
 ·simp only [actFn,act,if_neg k1,if_neg k2,if_neg k3,if_pos k4];exact store_call h hq hd i ok.a hbl
 by_cases k5:i.kind = 5
 ·simp only [actFn,act,if_neg k1,if_neg k2,if_neg k3,if_neg k4,if_pos k5];exact swap_call h hq hd i ok.d (ok.addr (by omega))
 by_cases k6:i.kind = 6
 ·simp only [actFn,act,if_neg k1,if_neg k2,if_neg k3,if_neg k4,if_neg k5,if_pos k6];exact fence_call h hq hd i
 by_cases k7:i.kind = 7
 ·simp only [actFn,act,if_neg k1,if_neg k2,if_neg k3,if_neg k4,if_neg k5,if_neg k6,if_pos k7];exact print_call h hq hd i ok.a hpl
 by_cases k8:i.kind = 8
 ·simp only [actFn,act,if_neg k1,if_neg k2,if_neg k3,if_neg k4,if_neg k5,if_neg k6,if_neg k7,if_pos k8];exact jump_call h hq hd i
 by_cases k9:i.kind = 9
 ·simp only [actFn,act,if_neg k1,if_neg k2,if_neg k3,if_neg k4,if_neg k5,if_neg k6,if_neg k7,if_neg k8,if_pos k9];exact zero_call h hq hd i ok.a
 simp only [actFn,act,if_neg k1,if_neg k2,if_neg k3,if_neg k4,if_neg k5,if_neg k6,if_neg k7,if_neg k8,if_neg k9];exact halt_call h hq hd i
end Go.Proofs.YtflicfkgbjmffaaGreat.V
/- A core's run. -/
namespace Go.Proofs.YtflicfkgbjmffaaGreat.V
open Go Go.Abs Go.Proofs
set_option linter.unusedSimpArgs false
set_option linter.unusedVariables false
theorem MAt.keepIds {o:Obj} {s:Mach} {L:Lay} {H H':Hp} {nx nx':Nat} (h:MAt o s L H nx) (hf:∀ b,b ∈ L.ids→getH H' b = getH H b) (hn:nx ≤ nx'):MAt o s L H' nx':=by
 obtain ⟨d1,h1⟩:=h.m
 obtain ⟨d2,h2⟩:=h.c
 obtain ⟨d3,h3⟩:=h.mem
 obtain ⟨d4,h4⟩:=h.pr
 refine ⟨⟨d1,(hf _ (by simp [Lay.ids])).trans h1⟩,⟨d2,(hf _ (by simp [Lay.ids])).trans h2⟩,⟨d3,(hf _ (by simp [Lay.ids])).trans h3⟩,⟨d4,(hf _ (by simp [Lay.ids])).trans h4⟩,?_,h.lens,fun b hb => Nat.lt_of_lt_of_le (h.lt b hb) hn,h.nodup⟩
 intro i hi
 obtain ⟨d5,h5⟩:=h.bufs i hi
 exact ⟨d5,(hf _ (by simp only [Lay.ids,List.mem_cons];exact .inr (.inr (.inr (.inr (Lay.mem_buf (by rw [h.lens];exact hi))))))).trans h5⟩
theorem MAt.keep {o:Obj} {s:Mach} {L:Lay} {H H':Hp} {nx nx':Nat} (h:MAt o s L H nx) (hf:∀ b,b < nx→getH H' b = getH H b) (hn:nx ≤ nx'):MAt o s L H' nx':=h.keepIds (fun b hb => hf b (h.lt b hb)) hn
structure ObjOk (o:Obj):Prop where
 buffer:1 ≤ o.buffer∧o.buffer ≤ 16
 cores:o.cores.length ≤ 8
 mem:o.mem.length ≤ 4096
 code:∀ q,q < o.cores.length→1 ≤ (o.core q).code.length∧(o.core q).code.length ≤ 16384
 last:∀ q,q < o.cores.length→lastOk (o.core q) = true
 ok:∀ q,q < o.cores.length→∀ k,k < (o.core q).code.length→instrOk ((o.core q).code.getD k default) (o.core q).code.length o.mem.length = true
structure Good (o:Obj) (s:Mach):Prop where
 n:s.cores.length = o.cores.length
 mem:s.mem.length = o.mem.length
 pc:∀ q,q < s.cores.length→0 ≤ (s.core q).pc∧(s.core q).pc < (o.core q).code.length
 buf:∀ q,q < s.cores.length→((s.core q).buf.length:Int) ≤ o.buffer
 addr:∀ q,q < s.cores.length→∀ x ∈ (s.core q).buf,0 ≤ x.addr∧x.addr < s.mem.length
def did0:DidS:=⟨0,0,0,0,0,0,false⟩
def Mach.inc (s:Mach) (q:Nat):Mach:=s.setCore q { s.core q with pc:=(s.core q).pc + 1 }
def runS (o:Obj) (s:Mach) (k:Int):Mach × DidS × Int :=
 if out s k then (s,did0,180) else if (s.core k.toNat).halted = true then (s,did0,0) else if stallsF o s k.toNat (instrAt o s k.toNat) = true then (s,did0,181) else
  let r:=act (s.inc k.toNat) k.toNat (instrAt o s k.toNat) { did0 with core:=k,pc:=(s.core k.toNat).pc }
  (r.1,r.2,0)
def Stepped (o:Obj) (L:Lay) (H:Hp) (nx:Nat) (x:Mach × DidS × Int):AV→Hp→Nat→Prop:=fun r H' n =>
 r = .tup [x.2.1.av,i64 x.2.2]∧nx ≤ n∧(∃ L',MAt o x.1 L' H' n∧Moves L L' nx)∧∀ b,b < nx→b ∉ L.ids→getH H' b = getH H b
theorem Stepped.same {o:Obj} {s:Mach} {L:Lay} {H H':Hp} {nx n:Nat} (h:MAt o s L H nx) {d:DidS} {e:Int} (hn:nx ≤ n) (hf:∀ b,b < nx→getH H' b = getH H b):Stepped o L H nx (s,d,e) (.tup [d.av,i64 e]) H' n :=
 ⟨rfl,hn,⟨L,h.keep hf hn,Moves.refl _ _⟩,fun b hb _ => hf b hb⟩
theorem lay_same {L:Lay} {q:Nat} (h:q < L.bufs.length):({ L with bufs:=L.bufs.set q (L.bufs.getD q 0) }:Lay) = L:=by
 have e:L.bufs.getD q 0 = L.bufs[q]:=by simp [List.getD,h]
 rw [e,List.set_getElem_self]
theorem inc_core {s:Mach} {q:Nat} (hq:q < s.cores.length):(s.inc q).core q = { s.core q with pc:=(s.core q).pc + 1 }:=by
 simp [Mach.inc,Mach.core,Mach.setCore,List.getD,hq]
theorem act_inc {o:Obj} {s:Mach} {L:Lay} {H Hc:Hp} {nx nc:Nat} (h:MAt o s L H nx) {q:Nat} (hq:q < s.cores.length) (hn:nx ≤ nc)
  (h1:∃ d es,getH Hc L.m = some (.row 92 8 d es)∧es = [machAv o s L])
  (h2:∃ d es,getH Hc L.c = some (.row 164 19 d es)∧es = (rows s L).set q (CoreS.av { s.core q with pc:=(s.core q).pc + 1 } (L.bufs.getD q 0)))
  (h6:∀ b,b < nx→b ≠ L.c→b ∈ L.ids→getH Hc b = getH H b)
  {d:Nat} {did:DidS} (hd:DidAt L Hc nc d did) (i:Instr) {code:Int} (ok:ActOk i code s.mem.length)
  (hbl:(s.core q).buf.length < 1000) (hpl:(s.prints.length + 1) * 16 ≤ 140737488355328) :
  CallN Tryz.prog (actFn i.kind) [turnAv s L q d i] Hc nc (Turned o L Hc nc d (act (s.inc q) q i did).1 (act (s.inc q) q i did).2):=by
 obtain ⟨e3,h3⟩:=h.mem
 obtain ⟨e4,h4⟩:=h.pr
 obtain ⟨e5,h5⟩:=h.bufs q hq
 obtain ⟨a1,a2,a3,a4,a5,a6,a7,a8,a9,a10⟩:=h.apart hq
 obtain ⟨l1,l2,l3,l4,l5⟩:=h.lts hq
 have hqb:q < L.bufs.length:=by rw [h.lens];exact hq
 have hbm:∀ j,j < s.cores.length→L.bufs.getD j 0 ∈ L.ids:=by
  intro j hj
  simp only [Lay.ids,List.mem_cons]
  exact .inr (.inr (.inr (.inr (Lay.mem_buf (by rw [h.lens];exact hj)))))
 obtain ⟨hM,_⟩:=h.next hq { s.core q with pc:=(s.core q).pc + 1 } (L.bufs.getD q 0) s.mem s.prints hn (.inl rfl) h1 h2
  ⟨e3,_,(h6 _ l3 (Ne.symm a4) (by simp [Lay.ids])).trans h3,rfl⟩ ⟨e4,_,(h6 _ l4 (Ne.symm a5) (by simp [Lay.ids])).trans h4,rfl⟩ ⟨e5,_,(h6 _ l5 (Ne.symm a8) (hbm q hq)).trans h5,rfl⟩
  (fun j hj _ hl _ hc _ _ _ => h6 _ hl hc (hbm j hj))
 rw [lay_same hqb] at hM
 have hc:=inc_core hq
 have hlen:(s.inc q).cores.length = s.cores.length:=by simp [Mach.inc,Mach.setCore]
 have hA:=act_call (s:=s.inc q) (H:=Hc) hM (q:=q) (by rw [hlen];exact hq) hd i (code:=code) ok (by rw [hc];exact hbl) hpl
 have ht:turnAv (s.inc q) L q d i = turnAv s L q d i:=by simp only [turnAv,hlen]
 rw [ht] at hA
 exact hA
theorem run_out {o:Obj} {s:Mach} {L:Lay} {H:Hp} {nx:Nat} (h:MAt o s L H nx) (k:Int) (hk:out s k):CallN Tryz.prog 49 [.pt L.m 1 0 0,i64 k] H nx (Stepped o L H nx (runS o s k)):=by
 refine Go.fnL lf49 rfl ?_
 have he:hasE s k = 180:=by rw [hasE,if_pos hk]
 rw [runS,if_pos hk]
 repeat' (first|((with_reducible refine Go.red ?_);conv => whnf)|refine aG ?_|exact aC|with_reducible refine Go.and ?_ ?_|(apply Go.elem;(·exact aElem))|((refine Go.lookW (he ▸ has_call (h.keep aKeep aNx) k) ?_ ?_);(·exact True.intro))|((refine Go.lookJ (fun _ => he ▸ has_call (h.keep aKeep aNx) k) ?_ ?_);(·exact True.intro))|refine aH ?_|((with_reducible refine Go.bool ?_ ?_) <;> intro hc <;> (try simp only [List.length_map,ne_eq,hcs] at hc) <;> try (exfalso;omega)))
 ·exact ⟨Stepped.same h aNx aKeep⟩
set_option maxRecDepth 20000 in
theorem run_lands {o:Obj} {s:Mach} {L:Lay} {H:Hp} {nx:Nat} (h:MAt o s L H nx) (g:Good o s) (ok:ObjOk o) (hpl:(s.prints.length + 1) * 16 ≤ 140737488355328) {q:Nat} (hq:q < s.cores.length):CallN Tryz.prog 49 [.pt L.m 1 0 0,i64 q] H nx (Stepped o L H nx (runS o s q)):=by
 refine Go.fnL lf49 rfl ?_
 have hk:¬ out s q:=by unfold out;omega
 have he:hasE s q = 0:=by rw [hasE,if_neg hk]
 rw [runS,if_neg hk,Int.toNat_natCast]
 have iok:ActOk (instrAt o s q) (o.core q).code.length o.mem.length:=instrOk_act (ok.ok q (by rw [← g.n];exact hq) (s.core q).pc.toNat (by have:=g.pc q hq;omega))
 repeat' (first|((with_reducible refine Go.red ?_);conv => whnf)|refine aG ?_|exact aC|with_reducible refine Go.and ?_ ?_|(apply Go.elem;(·exact aElem))|((refine Go.lookW (he ▸ has_call (h.keep aKeep aNx) q) ?_ ?_);(·exact True.intro))|((refine Go.lookJ (fun _ => he ▸ has_call (h.keep aKeep aNx) q) ?_ ?_);(·exact True.intro))|refine aH ?_|((with_reducible refine Go.bool ?_ ?_) <;> intro hc <;> (try simp only [List.length_map,ne_eq,hcs] at hc) <;> try (exfalso;omega)))
 refine Go.callN (next_call (h.keep aKeep aNx) hq g.n (g.pc q hq) _) ?_
 rintro _ H1 n1 ⟨rfl,hn1,hfr1⟩
 have hlt:=h.lts hq
 obtain ⟨f4,e4⟩:∃ df,getH H1 nx = some (didRow did0 df):=⟨_,(hfr1 _ aNx).trans aRow⟩
 obtain ⟨f7,e7⟩:∃ df,getH H1 (nx + 1 + 1 + 1 + 1 + 1 + 1 + 1 + 1 + 1) = some (didRow { did0 with core:=q } df):=⟨_,(hfr1 _ aNx).trans aRow⟩
 have hfr:∀ b,b < nx→getH H1 b = getH H b:=fun b hb => (hfr1 b aNx).trans (by repeat (first|exact rfl|(refine Eq.trans (getH_skipEq (by omega)) ?_)))
 have hn2:nx + 10 ≤ n1:=by omega
 have h1:MAt o s L H1 n1:=h.keep hfr (by omega)
 rw [didRow] at e4 e7
 clear hfr1 hn1
 obtain ⟨dm,rm⟩:=h1.m
 obtain ⟨dc,rc⟩:=h1.c
 have hel:=rows_len h1
 have hei:=rows_at h1 hq
 obtain ⟨l1,l2,l3,l4,l5⟩:=hlt
 have hp1:0 ≤ (s.cores.getD q default).pc∧(s.cores.getD q default).pc < 16384:=by
  have p1:0 ≤ (s.cores.getD q default).pc∧(s.cores.getD q default).pc < (o.core q).code.length:=g.pc q hq
  have p2:=ok.code q (by rw [← g.n];exact hq)
  omega
 obtain ⟨a1,a2,a3,a4,a5,a6,a7,a8,a9,a10⟩:=h1.apart hq
 repeat' (first|((with_reducible refine Go.red ?_);conv => whnf)|refine aG ?_|exact aC|with_reducible refine Go.and ?_ ?_|(apply Go.elem;(·(first|exact hei _|exact aElem)))|((refine Go.lookW (stalls_call (h1.keep aKeep aNx) hq _ (instrAt o s q)) ?_ ?_);(·exact True.intro))|((refine Go.lookJ (fun _ => stalls_call (h1.keep aKeep aNx) hq _ (instrAt o s q)) ?_ ?_);(·exact True.intro))|((with_reducible refine Go.callW (does_pure _ iok.kind) ?_ ?_);(·exact aFit))|((with_reducible refine Go.callJ (fun _ => does_pure _ iok.kind) ?_ ?_);(·exact aFit))|((with_reducible refine Go.callE (does_pure _ iok.kind) ?_ ?_);(·exact aFit))|((with_reducible refine Go.callF (fun _ => does_pure _ iok.kind) ?_ ?_);(·exact aFit))|refine aH ?_|((with_reducible refine Go.bool ?_ ?_) <;> intro hc <;> (try simp only [List.length_map,ne_eq,hcs] at hc) <;> try (exfalso;omega)))
 ·rw [if_pos (by assumption)]
  exact ⟨Stepped.same h aNx (by intro _b _hb;repeat (first|exact hfr _ _hb|exact rfl|(refine Eq.trans (getH_skipEq (by first|omega|(simp only [List.length_cons,List.length_nil];omega))) ?_)))⟩
 ·rw [if_neg (fun hx => Bool.noConfusion (hx.symm.trans (show (s.core q).halted = false by assumption))),if_pos (by assumption)]
  exact ⟨Stepped.same h aNx (by intro _b _hb;repeat (first|exact hfr _ _hb|exact rfl|(refine Eq.trans (getH_skipEq (by first|omega|(simp only [List.length_cons,List.length_nil];omega))) ?_)))⟩
 have hdo:(nx + 1 + 1 + 1 + 1 + 1 + 1 + 1 + 1 + 1) ∉ L.ids:=fun hm => by have:=h.lt _ hm;omega
 have hbl:(s.core q).buf.length < 1000:=by have:=g.buf q hq;have:=ok.buffer;omega
 refine Go.callN (act_inc (did:={ did0 with core:=q,pc:=(s.core q).pc }) h1 hq aNx ⟨_,_,aRow,rfl⟩ ⟨_,_,aRow,rfl⟩ (by intro b hb hbc hbi;have:=h.lt b hbi;repeat (first|exact rfl|(refine Eq.trans (getH_skipEq (by omega)) ?_))) ⟨aNx,hdo,⟨_,aRow⟩⟩ (instrAt o s q) (by rw [g.mem];exact iok) hbl hpl) ?_
 rintro _ H2 n2 ⟨hn3,⟨L',hM,hmv⟩,⟨fd,hdr⟩,hfr2⟩
 have hnx:nx ∉ L.ids:=fun hm => by have:=h.lt _ hm;omega
 have hn4:nx + 11 ≤ n2:=Nat.le_trans aNx hn3
 have e4b:getH H2 nx = some (.row 62 7 f4 [did0.av]):=(hfr2 nx aNx hnx (by omega)).trans aRow
 have hfr3:∀ b,b < nx→b ∉ L.ids→getH H2 b = getH H b:=fun b hb hbo => by
  obtain ⟨o1,o2,o3,o4,o5⟩:=Lay.out hbo (q:=q) (by rw [h.lens];exact hq)
  exact (hfr2 b aNx hbo (by omega)).trans (by repeat (first|exact hfr b hb|(refine Eq.trans (getH_skipEq (by omega)) ?_)))
 have hmv2:∀ b,b ∈ L'.ids→b ∈ L.ids ∨ nx + 1 ≤ b:=fun b hb => (hmv.ids b hb).imp id (fun hh => Nat.le_trans aNx hh)
 have hmm:=hmv.m
 rw [didRow] at hdr
 clear hfr2 hmv hn3
 repeat' (first|((with_reducible refine Go.red ?_);conv => whnf)|refine aG ?_|exact aC|with_reducible refine Go.and ?_ ?_|(apply Go.elem;(·exact aElem))|refine aH ?_|((with_reducible refine Go.bool ?_ ?_) <;> intro hc <;> (try simp only [List.length_map,ne_eq,hcs] at hc) <;> try (exfalso;omega)))
 rw [if_neg (fun hx => Bool.noConfusion (hx.symm.trans (show (s.core q).halted = false by assumption))),if_neg (fun hx => Bool.noConfusion (hx.symm.trans (show stallsF o s q (instrAt o s q) = false by assumption)))]
 refine ⟨⟨rfl,aNx,⟨L',hM.keepIds (fun b hb => ?_) aNx,⟨hmm,fun b hb => (hmv2 b hb).imp id (fun hh => by omega)⟩⟩,fun b hb hbo => ?_⟩⟩
 ·have hne:b ≠ nx:=fun he => (hmv2 b hb).elim (fun hh => hnx (he ▸ hh)) (fun hh => by omega)
  repeat (first|exact rfl|(refine Eq.trans (getH_skipEq (by omega)) ?_))
 ·repeat (first|exact hfr3 b hb hbo|(refine Eq.trans (getH_skipEq (by omega)) ?_))
theorem run_call {o:Obj} {s:Mach} {L:Lay} {H:Hp} {nx:Nat} (h:MAt o s L H nx) (g:Good o s) (ok:ObjOk o) (hpl:(s.prints.length + 1) * 16 ≤ 140737488355328) (k:Int):CallN Tryz.prog 49 [.pt L.m 1 0 0,i64 k] H nx (Stepped o L H nx (runS o s k)):=by
 by_cases hk:out s k
 ·exact run_out h k hk
 ·have h2:k = (k.toNat:Int):=by unfold out at hk;omega
  rw [h2]
  exact run_lands h g ok hpl (by unfold out at hk;omega)
end Go.Proofs.YtflicfkgbjmffaaGreat.V
end
section
/- A core's drain. -/
namespace Go.Proofs.YtflicfkgbjmffaaGreat.V
open Go Go.Abs Go.Proofs
set_option linter.unusedSimpArgs false
set_option linter.unusedVariables false
def drainS (o:Obj) (s:Mach) (k:Int):Mach × DidS × Int :=
 if out s k then (s,did0,180) else match (s.core k.toNat).buf with
  | [] => (s,did0,0)
  | x :: t => ({ s.setCore k.toNat { s.core k.toNat with buf:=t } with mem:=s.mem.set x.addr.toNat x.word },⟨8,k,x.pc,x.addr,x.word,0,false⟩,0)
theorem drain_out {o:Obj} {s:Mach} {L:Lay} {H:Hp} {nx:Nat} (h:MAt o s L H nx) (k:Int) (hk:out s k):CallN Tryz.prog 50 [.pt L.m 1 0 0,i64 k] H nx (Stepped o L H nx (drainS o s k)):=by
 refine Go.fnL lf50 rfl ?_
 have he:hasE s k = 180:=by rw [hasE,if_pos hk]
 rw [drainS,if_pos hk]
 repeat' (first|((with_reducible refine Go.red ?_);conv => whnf)|refine aG ?_|exact aC|with_reducible refine Go.and ?_ ?_|(apply Go.elem;(·exact aElem))|((refine Go.lookW (he ▸ has_call (h.keep aKeep aNx) k) ?_ ?_);(·exact True.intro))|((refine Go.lookJ (fun _ => he ▸ has_call (h.keep aKeep aNx) k) ?_ ?_);(·exact True.intro))|refine aH ?_|((with_reducible refine Go.bool ?_ ?_) <;> intro hc <;> (try simp only [List.length_map,ne_eq,hcs] at hc) <;> try (exfalso;omega)))
 ·exact ⟨Stepped.same h aNx aKeep⟩
theorem drain_nil {o:Obj} {s:Mach} {L:Lay} {H:Hp} {nx:Nat} (h:MAt o s L H nx) {q:Nat} (hq:q < s.cores.length) (hbuf:(s.core q).buf = []):CallN Tryz.prog 50 [.pt L.m 1 0 0,i64 q] H nx (Stepped o L H nx (drainS o s q)):=by
 refine Go.fnL lf50 rfl ?_
 have hk:¬ out s q:=by unfold out;omega
 have he:hasE s q = 0:=by rw [hasE,if_neg hk]
 rw [drainS,if_neg hk,Int.toNat_natCast,hbuf]
 obtain ⟨dm,rm⟩:=h.m
 obtain ⟨dc,rc⟩:=h.c
 obtain ⟨db,rb⟩:=h.bufs q hq
 have hel:=rows_len h
 have hei:=rows_at h hq
 have hbuf2:(s.cores.getD q default).buf = []:=hbuf
 simp only [CoreS.av,hbuf2] at hei rb
 obtain ⟨l1,l2,l3,l4,l5⟩:=h.lts hq
 repeat' (first|((with_reducible refine Go.red ?_);conv => whnf)|refine aG ?_|exact aC|with_reducible refine Go.and ?_ ?_|(apply Go.elem;(·(first|exact hei _|exact aElem)))|((refine Go.lookW (he ▸ has_call (h.keep aKeep aNx) q) ?_ ?_);(·exact True.intro))|((refine Go.lookJ (fun _ => he ▸ has_call (h.keep aKeep aNx) q) ?_ ?_);(·exact True.intro))|refine aH ?_|((with_reducible refine Go.bool ?_ ?_) <;> intro hc <;> (try simp only [List.length_map,ne_eq,hcs] at hc) <;> try (exfalso;omega)))
 exact ⟨Stepped.same h aNx aKeep⟩
theorem drain_in {o:Obj} {s:Mach} {L:Lay} {H:Hp} {nx:Nat} (h:MAt o s L H nx) (g:Good o s) (ok:ObjOk o) {q:Nat} (hq:q < s.cores.length) {x:StoreS} {t:List StoreS} (hbuf:(s.core q).buf = x :: t):CallN Tryz.prog 50 [.pt L.m 1 0 0,i64 q] H nx (Stepped o L H nx (drainS o s q)):=by
 refine Go.fnL lf50 rfl ?_
 have hk:¬ out s q:=by unfold out;omega
 have he:hasE s q = 0:=by rw [hasE,if_neg hk]
 rw [drainS,if_neg hk,Int.toNat_natCast,hbuf]
 obtain ⟨dm,rm⟩:=h.m
 obtain ⟨dc,rc⟩:=h.c
 obtain ⟨dmem,rmem⟩:=h.mem
 obtain ⟨dpr,rpr⟩:=h.pr
 obtain ⟨db,rb⟩:=h.bufs q hq
 have hel:=rows_len h
 have hei:=rows_at h hq
 have hbuf2:(s.cores.getD q default).buf = x :: t:=hbuf
 have hx:=g.addr q hq x (by rw [hbuf];simp)
 have hbl:t.length < 1000:=by
  have h1:=g.buf q hq
  have h2:=ok.buffer
  rw [hbuf,List.length_cons] at h1;omega
 simp only [CoreS.av,hbuf2,List.length_cons,List.map_cons] at hei rb
 obtain ⟨l1,l2,l3,l4,l5⟩:=h.lts hq
 obtain ⟨a1,a2,a3,a4,a5,a6,a7,a8,a9,a10⟩:=h.apart hq
 repeat' (first|((with_reducible refine Go.red ?_);conv => whnf)|refine aG ?_|exact aC|with_reducible refine Go.and ?_ ?_|(apply Go.elem;(·(first|exact hei _|exact aElem)))|((refine Go.lookW (he ▸ has_call (h.keep aKeep aNx) q) ?_ ?_);(·exact True.intro))|((refine Go.lookJ (fun _ => he ▸ has_call (h.keep aKeep aNx) q) ?_ ?_);(·exact True.intro))|refine aH ?_|((with_reducible refine Go.bool ?_ ?_) <;> intro hc <;> (try simp only [List.length_map,ne_eq,hcs] at hc) <;> try (exfalso;omega)))
 have hlen:((t.length + 1:Nat):Int) - 1 = (t.length:Int):=by omega
 have hlen2:(((t.length + 1:Nat):Int) - 1).toNat = t.length:=by rw [hlen];simp
 refine ⟨⟨rfl,aNx,⟨_,h.next hq { s.core q with buf:=t } (nx + 34) (s.mem.set x.addr.toNat x.word) s.prints aNx (.inr ⟨aNx,aNx⟩) ⟨_,_,aRow,(by simp only [List.length_set])⟩ ⟨_,_,aRow,(by rw [hlen2];rfl)⟩ ⟨_,_,aRow,(by rw [List.map_set])⟩ ⟨_,_,aRow,rfl⟩ ⟨_,_,aRow,?_⟩ (by intro j hj hne hlt n1 n2 n3 n4 n5;repeat (first|exact rfl|(refine Eq.trans (getH_skipEq (by omega)) ?_)))⟩,(by intro b' hb' hout;obtain ⟨o1,o2,o3,o4,o5⟩:=Lay.out hout (q:=q) (by rw [h.lens];exact hq);repeat (first|exact rfl|(refine Eq.trans (getH_skipEq (by omega)) ?_)))⟩⟩
 rw [hlen2]
 have e1:t.length + 1 - Int.toNat 1 = t.length:=by simp
 have e2:List.drop (Int.toNat 1) (x.av :: List.map StoreS.av t) = List.map StoreS.av t:=rfl
 rw [e1,e2,List.take_of_length_le (by simp)]
 simp
 exact List.take_of_length_le (by simp)
theorem drain_call {o:Obj} {s:Mach} {L:Lay} {H:Hp} {nx:Nat} (h:MAt o s L H nx) (g:Good o s) (ok:ObjOk o) (k:Int):CallN Tryz.prog 50 [.pt L.m 1 0 0,i64 k] H nx (Stepped o L H nx (drainS o s k)):=by
 by_cases hk:out s k
 ·exact drain_out h k hk
 ·have h2:k = (k.toNat:Int):=by unfold out at hk;omega
  rw [h2]
  have hq:k.toNat < s.cores.length:=by unfold out at hk;omega
  cases hb:(s.core k.toNat).buf with
  | nil => exact drain_nil h hq hb
  | cons x t => exact drain_in h g ok hq hb
def stepS (o:Obj) (s:Mach) (kind k:Int):Mach × DidS × Int:=if kind = 1 then runS o s k else if kind = 2 then drainS o s k else (s,did0,182)
theorem step_run {o:Obj} {s:Mach} {L:Lay} {H:Hp} {nx:Nat} (h:MAt o s L H nx) (g:Good o s) (ok:ObjOk o) (hpl:(s.prints.length + 1) * 16 ≤ 140737488355328) (k:Int):CallN Tryz.prog 26 [.pt L.m 1 0 0,.agg [u8 1,i64 k]] H nx (Stepped o L H nx (runS o s k)):=by
 refine Go.fnL lf26 rfl ?_
 repeat' (first|((with_reducible refine Go.red ?_);conv => whnf)|refine aG ?_|exact aC|with_reducible refine Go.and ?_ ?_|(apply Go.elem;(·exact aElem))|refine aH ?_|((with_reducible refine Go.bool ?_ ?_) <;> intro hc <;> (try simp only [List.length_map,ne_eq,hcs] at hc) <;> try (exfalso;omega)))
 refine Go.callN (run_call (h.keep aKeep aNx) g ok hpl _) ?_
 rintro _ H2 n2 ⟨rfl,hn3,⟨L',hM,hmv⟩,hfr2⟩
 have hlt:=h.lt
 have hnx:nx + 1 ∉ L.ids:=fun hm => by have:=h.lt _ hm;omega
 have hn4:nx + 3 ≤ n2:=Nat.le_trans aNx hn3
 have e4b:getH H2 (nx + 1) = some (.row 62 7 _ [did0.av]):=(hfr2 _ aNx hnx).trans aRow
 have hfr3:∀ b,b < nx→b ∉ L.ids→getH H2 b = getH H b:=fun b hb hbo => (hfr2 b aNx hbo).trans (by repeat (first|exact rfl|(refine Eq.trans (getH_skipEq (by omega)) ?_)))
 have hmv2:∀ b,b ∈ L'.ids→b ∈ L.ids ∨ nx + 2 ≤ b:=fun b hb => (hmv.ids b hb).imp id (fun hh => Nat.le_trans aNx hh)
 have hmm:=hmv.m
 clear hfr2 hmv hn3
 repeat' (first|((with_reducible refine Go.red ?_);conv => whnf)|refine aG ?_|exact aC|with_reducible refine Go.and ?_ ?_|(apply Go.elem;(·exact aElem))|refine aH ?_|((with_reducible refine Go.bool ?_ ?_) <;> intro hc <;> (try simp only [List.length_map,ne_eq,hcs] at hc) <;> try (exfalso;omega)))
 refine ⟨⟨rfl,aNx,⟨L',hM.keepIds (fun b hb => ?_) aNx,⟨hmm,fun b hb => (hmv2 b hb).imp id (fun hh => by omega)⟩⟩,fun b hb hbo => ?_⟩⟩
 ·have hne:b ≠ nx + 1:=fun he => (hmv2 b hb).elim (fun hh => hnx (he ▸ hh)) (fun hh => by omega)
  repeat (first|exact rfl|(refine Eq.trans (getH_skipEq (by omega)) ?_))
 ·repeat (first|exact hfr3 b hb hbo|(refine Eq.trans (getH_skipEq (by omega)) ?_))
theorem step_drain {o:Obj} {s:Mach} {L:Lay} {H:Hp} {nx:Nat} (h:MAt o s L H nx) (g:Good o s) (ok:ObjOk o) (hpl:(s.prints.length + 1) * 16 ≤ 140737488355328) (k:Int):CallN Tryz.prog 26 [.pt L.m 1 0 0,.agg [u8 2,i64 k]] H nx (Stepped o L H nx (drainS o s k)):=by
 refine Go.fnL lf26 rfl ?_
 repeat' (first|((with_reducible refine Go.red ?_);conv => whnf)|refine aG ?_|exact aC|with_reducible refine Go.and ?_ ?_|(apply Go.elem;(·exact aElem))|refine aH ?_|((with_reducible refine Go.bool ?_ ?_) <;> intro hc <;> (try simp only [List.length_map,ne_eq,hcs] at hc) <;> try (exfalso;omega)))
 refine Go.callN (drain_call (h.keep aKeep aNx) g ok _) ?_
 rintro _ H2 n2 ⟨rfl,hn3,⟨L',hM,hmv⟩,hfr2⟩
 have hlt:=h.lt
 have hnx:nx + 1 ∉ L.ids:=fun hm => by have:=h.lt _ hm;omega
 have hn4:nx + 3 ≤ n2:=Nat.le_trans aNx hn3
 have e4b:getH H2 (nx + 1) = some (.row 62 7 _ [did0.av]):=(hfr2 _ aNx hnx).trans aRow
 have hfr3:∀ b,b < nx→b ∉ L.ids→getH H2 b = getH H b:=fun b hb hbo => (hfr2 b aNx hbo).trans (by repeat (first|exact rfl|(refine Eq.trans (getH_skipEq (by omega)) ?_)))
 have hmv2:∀ b,b ∈ L'.ids→b ∈ L.ids ∨ nx + 2 ≤ b:=fun b hb => (hmv.ids b hb).imp id (fun hh => Nat.le_trans aNx hh)
 have hmm:=hmv.m
 clear hfr2 hmv hn3
 repeat' (first|((with_reducible refine Go.red ?_);conv => whnf)|refine aG ?_|exact aC|with_reducible refine Go.and ?_ ?_|(apply Go.elem;(·exact aElem))|refine aH ?_|((with_reducible refine Go.bool ?_ ?_) <;> intro hc <;> (try simp only [List.length_map,ne_eq,hcs] at hc) <;> try (exfalso;omega)))
 refine ⟨⟨rfl,aNx,⟨L',hM.keepIds (fun b hb => ?_) aNx,⟨hmm,fun b hb => (hmv2 b hb).imp id (fun hh => by omega)⟩⟩,fun b hb hbo => ?_⟩⟩
 ·have hne:b ≠ nx + 1:=fun he => (hmv2 b hb).elim (fun hh => hnx (he ▸ hh)) (fun hh => by omega)
  repeat (first|exact rfl|(refine Eq.trans (getH_skipEq (by omega)) ?_))
 ·repeat (first|exact hfr3 b hb hbo|(refine Eq.trans (getH_skipEq (by omega)) ?_))
theorem step_not {o:Obj} {s:Mach} {L:Lay} {H:Hp} {nx:Nat} (h:MAt o s L H nx) (kind k:Int) (h1:kind ≠ 1) (h2:kind ≠ 2):CallN Tryz.prog 26 [.pt L.m 1 0 0,.agg [u8 kind,i64 k]] H nx (Stepped o L H nx (s,did0,182)):=by
 refine Go.fnL lf26 rfl ?_
 repeat' (first|((with_reducible refine Go.red ?_);conv => whnf)|refine aG ?_|exact aC|with_reducible refine Go.and ?_ ?_|(apply Go.elem;(·exact aElem))|refine aH ?_|((with_reducible refine Go.bool ?_ ?_) <;> intro hc <;> (try simp only [List.length_map,ne_eq,hcs] at hc) <;> try (exfalso;omega)))
 ·exact ⟨Stepped.same h aNx aKeep⟩
theorem step_call {o:Obj} {s:Mach} {L:Lay} {H:Hp} {nx:Nat} (h:MAt o s L H nx) (g:Good o s) (ok:ObjOk o) (hpl:(s.prints.length + 1) * 16 ≤ 140737488355328) (kind k:Int):CallN Tryz.prog 26 [.pt L.m 1 0 0,.agg [u8 kind,i64 k]] H nx (Stepped o L H nx (stepS o s kind k)):=by
 unfold stepS
 by_cases h1:kind = 1
 ·subst h1;exact step_run h g ok hpl k
 rw [if_neg h1]
 by_cases h2:kind = 2
 ·subst h2;exact step_drain h g ok hpl k
 rw [if_neg h2]
 exact step_not h kind k h1 h2
end Go.Proofs.YtflicfkgbjmffaaGreat.V
/- Lists cloned. -/
namespace Go.Proofs.YtflicfkgbjmffaaGreat.V
open Go Go.Abs Go.Proofs
set_option linter.unusedSimpArgs false
set_option linter.unusedVariables false
def Cloned (H:Hp) (nx:Nat) (e:TypeId) (sz:Nat) (es:List AV):AV→Hp→Nat→Prop:=fun r H' n => ∃ b' d',r = .sl b' es.length∧nx ≤ b'∧b' < n∧nx ≤ n∧getH H' b' = some (.row e sz d' es)∧∀ b,b < nx→getH H' b = getH H b
theorem Cloned.of {P:Program} {f:FuncId} {args:List AV} {H:Hp} {nx:Nat} {e:TypeId} {sz:Nat} {es:List AV} (hsz:0 < sz) (h:CallN P f args H nx (fun r H' n => (r = .sc (.slice none 0 0)∧es = []∧nx ≤ n∧∀ b,b < nx→getH H' b = getH H b) ∨ Cloned H nx e sz es r H' n)):CallN P f args H nx (Cloned H nx e sz es):=by
 refine h.wk ?_
 rintro r H' n (⟨rfl,rfl,h1,h2⟩|h1)
 ·refine ⟨_,_,_,Wk.nil (nx:=n) e sz .any hsz,n,.any,rfl,h1,Nat.lt_succ_self _,by omega,getH_here _ _ _,fun b hb => ?_⟩
  rw [getH_skipEq (by omega)];exact h2 b hb
 ·exact ⟨r,H',n,Wk.refl _ _ _,h1⟩
theorem clone_words_im {es:List AV} (hsz:es.length * 8 ≤ 140737488355328):CallN Tryz.prog 10 [.im 1 .any es] [] 0 (Cloned [] 0 2 1 es):=by
 refine Cloned.of (by omega) ?_
 refine Go.fnL lf10 rfl ?_
 cases hes:es with
 | nil =>
  repeat' (first|((with_reducible refine Go.red ?_);conv => whnf)|refine aG ?_|exact aC|with_reducible refine Go.and ?_ ?_|(apply Go.elem;(·exact aElem))|refine aH ?_|((with_reducible refine Go.bool ?_ ?_) <;> intro hc <;> (try simp only [List.length_map,ne_eq,hcs] at hc) <;> try (exfalso;omega)))
  ·exact ⟨.inl ⟨rfl,rfl,aNx,aKeep⟩⟩
  ·exact ⟨.inr ⟨_,_,rfl,aNx,aNx,aNx,aRow,aKeep⟩⟩
 | cons x t =>
  rw [hes] at hsz
  simp only [List.length_cons] at hsz
  repeat' (first|((with_reducible refine Go.red ?_);conv => whnf)|refine aG ?_|exact aC|with_reducible refine Go.and ?_ ?_|(apply Go.elem;(·exact aElem))|refine aH ?_|((with_reducible refine Go.bool ?_ ?_) <;> intro hc <;> (try simp only [List.length_map,ne_eq,hcs] at hc) <;> try (exfalso;omega)))
  ·exact ⟨.inr ⟨3,_,(by simp),aNx,aNx,aNx,aRow,aKeep⟩⟩
theorem clone_words_mk {es:List AV} (hsz:es.length * 8 ≤ 140737488355328):CallN Tryz.prog 10 [.im 1 .any es] [] 0 (fun r1 H1 _ => ∃ b d0,r1 = .sl b es.length∧getH H1 b = some (.row 2 1 d0 es)) :=
 (clone_words_im hsz).mono fun r H n ⟨b,d,h1,_,_,_,h2,_⟩ => ⟨b,d,h1,h2⟩
theorem clone_code_im {es:List AV} (hsz:es.length * 64 ≤ 140737488355328):CallN Tryz.prog 25 [.im 9 .any es] [] 0 (Cloned [] 0 87 9 es):=by
 refine Cloned.of (by omega) ?_
 refine Go.fnL lf25 rfl ?_
 cases hes:es with
 | nil =>
  repeat' (first|((with_reducible refine Go.red ?_);conv => whnf)|refine aG ?_|exact aC|with_reducible refine Go.and ?_ ?_|(apply Go.elem;(·exact aElem))|refine aH ?_|((with_reducible refine Go.bool ?_ ?_) <;> intro hc <;> (try simp only [List.length_map,ne_eq,hcs] at hc) <;> try (exfalso;omega)))
  ·exact ⟨.inl ⟨rfl,rfl,aNx,aKeep⟩⟩
  ·exact ⟨.inr ⟨_,_,rfl,aNx,aNx,aNx,aRow,aKeep⟩⟩
 | cons x t =>
  rw [hes] at hsz
  simp only [List.length_cons] at hsz
  repeat' (first|((with_reducible refine Go.red ?_);conv => whnf)|refine aG ?_|exact aC|with_reducible refine Go.and ?_ ?_|(apply Go.elem;(·exact aElem))|refine aH ?_|((with_reducible refine Go.bool ?_ ?_) <;> intro hc <;> (try simp only [List.length_map,ne_eq,hcs] at hc) <;> try (exfalso;omega)))
  ·exact ⟨.inr ⟨3,_,(by simp),aNx,aNx,aNx,aRow,aKeep⟩⟩
theorem clone_code_mk {es:List AV} (hsz:es.length * 64 ≤ 140737488355328):CallN Tryz.prog 25 [.im 9 .any es] [] 0 (fun r1 H1 _ => ∃ b d0,r1 = .sl b es.length∧getH H1 b = some (.row 87 9 d0 es)) :=
 (clone_code_im hsz).mono fun r H n ⟨b,d,h1,_,_,_,h2,_⟩ => ⟨b,d,h1,h2⟩
theorem clone_code_pure {es:List AV} (hsz:es.length * 64 ≤ 140737488355328) (hf:fitL 0 es):Pure Tryz.prog 25 [.im 9 .any es] (fun r => r = .im 9 .any es):=(clone_code_mk hsz).pureIm hf
end Go.Proofs.YtflicfkgbjmffaaGreat.V
end
section
/- A new machine. -/
namespace Go.Proofs.YtflicfkgbjmffaaGreat.V
open Go Go.Abs Go.Proofs
set_option linter.unusedSimpArgs false
set_option linter.unusedVariables false
def objOk (o:Obj):Bool:=shapedOk o && (bad2 o.mem.length o.cores 0).isNone
theorem check_ok {o:Obj} (h:objOk o = true):checkAv o = .tup [i64 0,i64 0,i64 0]:=by
 simp only [objOk,Bool.and_eq_true,Option.isNone_iff_eq_none] at h
 rw [checkAv,if_pos h.1,h.2]
theorem check_bad {o:Obj} (h:objOk o = false):∃ k n:Int,checkAv o = .tup [i64 160,i64 k,i64 n]:=by
 rw [checkAv]
 by_cases hs:shapedOk o = true
 ·rw [if_pos hs]
  cases hb:bad2 o.mem.length o.cores 0 with
  | none => simp [objOk,hs,hb] at h
  | some p => exact ⟨p.1,p.2,rfl⟩
 ·rw [if_neg hs];exact ⟨0,0,rfl⟩
theorem clone_at {o:Obj} (ho:o.Wf) (i:Nat):Pure Tryz.prog 25 [.im 9 .any ((o.cores.getD i default).code.map Instr.av)] (fun r => r = .im 9 .any ((o.cores.getD i default).code.map Instr.av)) :=
 clone_code_pure (by rw [List.length_map];have:=(ho.at i).len;omega) (by simp [fitL_map,fitA])
theorem take_map (f:Core→AV) {l:List Core} {i:Nat} (h:i < l.length):(l.take (i + 1)).map f = (l.take i).map f ++ [f (l.getD i default)]:=by
 rw [List.take_succ_eq_append_getElem h,List.map_append];simp [List.getD,h]
def core0:CoreS:=⟨0,false,fun _ => 0,[]⟩
def zcore:AV:=.agg (core0.cells (.sc (.slice none 0 0)))
def NewRaw (o:Obj) (H:Hp) (nx:Nat):AV→Hp→Nat→Prop:=fun r H' n => nx ≤ n∧∃ m c mm v,r = .tup [.pt m 1 0 0,i64 0]∧(nx ≤ m∧m < n)∧(nx ≤ c∧c < n)∧(nx ≤ mm∧mm < n)∧m ≠ c∧m ≠ mm∧c ≠ mm ∧
 (∃ d es,getH H' m = some (.row 92 8 d es)∧es = [.agg [.sc (.slice none 0 0),i64 o.shared,i64 o.locks,i64 o.buffer,v,.sl c o.cores.length,.sl mm o.mem.length,.sc (.slice none 0 0)]]) ∧
 (∃ d es,getH H' c = some (.row 164 19 d es)∧es = List.replicate o.cores.length zcore) ∧
 (∃ d,getH H' mm = some (.row 2 1 d (o.mem.map i64))) ∧
 ((v = .sc (.slice none 0 0)∧o.cores = []) ∨ ∃ cb d,v = .sl cb o.cores.length∧(nx ≤ cb∧cb < n)∧cb ≠ m∧cb ≠ c∧cb ≠ mm∧getH H' cb = some (.row 83 2 d (o.cores.map Core.av))) ∧
 ∀ b,b < nx→getH H' b = getH H b
def initM (o:Obj):Mach:={ cores:=List.replicate o.cores.length core0,mem:=o.mem,prints:=[] }
set_option maxRecDepth 20000 in
theorem new_ok0 {o:Obj} (ho:o.Wf) (ok:ObjOk o) (h:objOk o = true) {H:Hp} {nx:Nat}:CallN Tryz.prog 9 [o.av] H nx (NewRaw o H nx):=by
 refine Go.fnL lf9 rfl ?_
 have hp:=check_pure o ho
 rw [check_ok h] at hp
 have hoc:=ok.cores
 repeat' (first|((with_reducible refine Go.red ?_);conv => whnf)|refine aG ?_|exact aC|with_reducible refine Go.and ?_ ?_|(apply Go.elem;(·exact aElem))|refine aK (hp) ?_|refine aH ?_|((with_reducible refine Go.bool ?_ ?_) <;> intro hc <;> (try simp only [List.length_map,ne_eq,hcs] at hc) <;> try (exfalso;omega)))
 refine Go.loop (fun i:Nat => [(1,.pt nx 1 0 0),(7,.pt (nx + 14) 1 0 0),(23,.im 2 .any (o.cores.map Core.av)),(24,i64 o.cores.length),(25,i64 i)]) (fun i H' n => i ≤ o.cores.length∧nx + 15 ≤ n∧(∃ d,getH H' nx = some (.row 25 5 d [o.av]))∧(∃ v d,getH H' (nx + 14) = some (.row 25 5 d [.agg [.sc (.slice none 0 0),i64 o.shared,i64 o.locks,i64 o.buffer,v]])∧((i = 0∧v = .sc (.slice none 0 0)) ∨ ∃ cb d' es,0 < i∧v = .sl cb i∧nx + 15 ≤ cb∧cb < n∧getH H' cb = some (.row 83 2 d' es)∧es = (o.cores.take i).map Core.av))∧∀ b,b < nx→getH H' b = getH H b) (fun i => o.cores.length - i) 0 aLess ⟨Nat.zero_le _,aNx,⟨_,aRow⟩,⟨_,_,aRow,.inl ⟨rfl,rfl⟩⟩,aKeep⟩ ?_
 rintro i H' n ⟨hi,hn,⟨d1,r1⟩,⟨v,d7,r7,hv⟩,hfr⟩
 rcases hv with ⟨rfl,rfl⟩|⟨cb,dcb,es,hi0,rfl,hcb1,hcb2,rcb,hes⟩
 ·repeat' (first|((with_reducible refine Go.red ?_);conv => whnf)|refine aG ?_|exact aC|with_reducible refine Go.and ?_ ?_|(apply Go.elem;(·exact aElem))|((with_reducible refine Go.callW (clone_at ho _) ?_ ?_);(·exact aFit))|((with_reducible refine Go.callJ (fun _ => clone_at ho _) ?_ ?_);(·exact aFit))|((with_reducible refine Go.callE (clone_at ho _) ?_ ?_);(·exact aFit))|((with_reducible refine Go.callF (fun _ => clone_at ho _) ?_ ?_);(·exact aFit))|refine aH ?_|((with_reducible refine Go.bool ?_ ?_) <;> intro hc <;> (try simp only [List.length_map,ne_eq,hcs] at hc) <;> try (exfalso;omega)))
  ·refine ⟨0 + 1,by omega,aLess,by omega,aNx,⟨_,aRow⟩,⟨_,_,aRow,.inr ⟨n + 14,_,_,by omega,rfl,aNx,aNx,aRow,?_⟩⟩,(by intro _b _hb;repeat (first|exact hfr _ _hb|exact rfl|(refine Eq.trans (getH_skipEq (by first|omega|(simp only [List.length_cons,List.length_nil];omega))) ?_)))⟩
   rw [take_map _ (by omega)];rfl
  refine Go.freshE (es:=o.mem.map i64) [] .any (clone_words_mk (by rw [List.length_map];have:=ok.mem;omega)) (fun i hi => by rw [getD_av _ _ _ _ (by simpa using hi)];trivial) (fun _ _ => rfl) (by simp [fitL,fitA,fitL_map]) ?_
  repeat' (first|((with_reducible refine Go.red ?_);conv => whnf)|refine aG ?_|exact aC|with_reducible refine Go.and ?_ ?_|(apply Go.elem;(·exact aElem))|refine aH ?_|((with_reducible refine Go.bool ?_ ?_) <;> intro hc <;> (try simp only [List.length_map,ne_eq,hcs] at hc) <;> try (exfalso;omega)))
  refine ⟨aNx,n + 10,n + 5,n + 8,.sc (.slice none 0 0),rfl,⟨aNx,aNx⟩,⟨aNx,aNx⟩,⟨aNx,aNx⟩,by omega,by omega,by omega,⟨_,_,aRow,(by simp only [List.length_map,Int.toNat_natCast];rfl)⟩,⟨_,_,aRow,(by simp only [List.length_map,Int.toNat_natCast];rfl)⟩,⟨_,aRow⟩,.inl ⟨rfl,List.eq_nil_of_length_eq_zero (by omega)⟩,(by intro _b _hb;repeat (first|exact hfr _ _hb|exact rfl|(refine Eq.trans (getH_skipEq (by first|omega|(simp only [List.length_cons,List.length_nil];omega))) ?_)))⟩
 ·have hel:es.length = i:=by rw [hes];simp;omega
  repeat' (first|((with_reducible refine Go.red ?_);conv => whnf)|refine aG ?_|exact aC|with_reducible refine Go.and ?_ ?_|(apply Go.elem;(·exact aElem))|((with_reducible refine Go.callW (clone_at ho _) ?_ ?_);(·exact aFit))|((with_reducible refine Go.callJ (fun _ => clone_at ho _) ?_ ?_);(·exact aFit))|((with_reducible refine Go.callE (clone_at ho _) ?_ ?_);(·exact aFit))|((with_reducible refine Go.callF (fun _ => clone_at ho _) ?_ ?_);(·exact aFit))|refine aH ?_|((with_reducible refine Go.bool ?_ ?_) <;> intro hc <;> (try simp only [List.length_map,ne_eq,hcs] at hc) <;> try (exfalso;omega)))
  ·refine ⟨i + 1,by omega,aLess,by omega,aNx,⟨_,aRow⟩,⟨_,_,aRow,.inr ⟨cb,_,_,by omega,rfl,aNx,aNx,aRow,?_⟩⟩,(by intro _b _hb;repeat (first|exact hfr _ _hb|exact rfl|(refine Eq.trans (getH_skipEq (by first|omega|(simp only [List.length_cons,List.length_nil];omega))) ?_)))⟩
   rw [take_map _ (by omega),← hes];rfl
  refine Go.freshE (es:=o.mem.map i64) [] .any (clone_words_mk (by rw [List.length_map];have:=ok.mem;omega)) (fun i hi => by rw [getD_av _ _ _ _ (by simpa using hi)];trivial) (fun _ _ => rfl) (by simp [fitL,fitA,fitL_map]) ?_
  repeat' (first|((with_reducible refine Go.red ?_);conv => whnf)|refine aG ?_|exact aC|with_reducible refine Go.and ?_ ?_|(apply Go.elem;(·exact aElem))|refine aH ?_|((with_reducible refine Go.bool ?_ ?_) <;> intro hc <;> (try simp only [List.length_map,ne_eq,hcs] at hc) <;> try (exfalso;omega)))
  refine ⟨aNx,n + 10,n + 5,n + 8,.sl cb i,rfl,⟨aNx,aNx⟩,⟨aNx,aNx⟩,⟨aNx,aNx⟩,by omega,by omega,by omega,⟨_,_,aRow,(by simp only [List.length_map,Int.toNat_natCast];rfl)⟩,⟨_,_,aRow,(by simp only [List.length_map,Int.toNat_natCast];rfl)⟩,⟨_,aRow⟩,.inr ⟨cb,dcb,by rw [show i = o.cores.length by omega],⟨by omega,aNx⟩,by omega,by omega,by omega,?_⟩,(by intro _b _hb;repeat (first|exact hfr _ _hb|exact rfl|(refine Eq.trans (getH_skipEq (by first|omega|(simp only [List.length_cons,List.length_nil];omega))) ?_)))⟩
  have e:o.cores.map Core.av = es:=by rw [hes,List.take_of_length_le (by omega)]
  rw [e];(repeat (first|exact getH_here _ _ _|assumption|refine getH_skip (by first|omega|(simp only [List.length_cons,List.length_nil];omega)) ?_))
end Go.Proofs.YtflicfkgbjmffaaGreat.V
/- A new machine, told as one. -/
namespace Go.Proofs.YtflicfkgbjmffaaGreat.V
open Go Go.Abs Go.Proofs
set_option linter.unusedSimpArgs false
set_option linter.unusedVariables false
theorem AVle.nilIm (c c2:Cx) (sz:Nat) (d:AV):AVle c c2 (.sc (.slice none 0 0)) (.im sz d []):=by
 intro v hv
 rw [VR] at hv
 subst hv
 rw [VR]
 exact ⟨none,0,rfl,by simp,.inl rfl⟩
def Born (o:Obj) (H:Hp) (nx:Nat):AV→Hp→Nat→Prop:=fun r H' n => ∃ L,r = .tup [.pt L.m 1 0 0,i64 0]∧MAt o (initM o) L H' n∧nx ≤ n∧(∀ b ∈ L.ids,nx ≤ b)∧∀ b,b < nx→getH H' b = getH H b
def newLay (o:Obj) (m c mm n:Nat):Lay:=⟨m,c,mm,n,(List.range o.cores.length).map fun i => n + 1 + i⟩
def newH (o:Obj) (m c mm n:Nat) (H':Hp):Hp:=(m,some (.row 92 8 .any [machAv o (initM o) (newLay o m c mm n)])) :: (c,some (.row 164 19 .any (rows (initM o) (newLay o m c mm n)))) :: (n,some (.row 137 2 .any [])) :: addB 135 3 (n + 1) o.cores.length H'
theorem newH_at (o:Obj) {m c mm n:Nat} (H':Hp) (b:Nat) (h1:b ≠ m) (h2:b ≠ c) (h3:b < n):getH (newH o m c mm n H') b = getH H' b:=by
 rw [newH,getH_skipEq h1,getH_skipEq h2,getH_skipEq (by omega),getH_addB,if_neg (by omega)]
theorem newRows (o:Obj) (m c mm n:Nat):rows (initM o) (newLay o m c mm n) = (List.range o.cores.length).map fun i => core0.av (n + 1 + i):=by
 simp only [rows,initM,newLay]
 apply List.ext_getElem
 ·simp
 ·intro i h1 h2
  simp
theorem newLay_ids (o:Obj) {m c mm n:Nat} {b:Nat} (h:b ∈ (newLay o m c mm n).ids):b = m ∨ b = c ∨ b = mm ∨ (n ≤ b∧b < n + 1 + o.cores.length):=by
 simp only [newLay,Lay.ids,List.mem_cons,List.mem_map,List.mem_range] at h
 rcases h with h|h|h|h|⟨i,hi,h⟩
 ·exact .inl h
 ·exact .inr (.inl h)
 ·exact .inr (.inr (.inl h))
 ·exact .inr (.inr (.inr (by omega)))
 ·exact .inr (.inr (.inr (by omega)))
theorem newMAt (o:Obj) {m c mm n:Nat} {H2:Hp} {d:AV} (hm:m < n) (hc:c < n) (hmm:mm < n) (a1:m ≠ c) (a2:m ≠ mm) (a3:c ≠ mm)
  (h1:∃ d,getH H2 m = some (.row 92 8 d [machAv o (initM o) (newLay o m c mm n)])) (h2:∃ d,getH H2 c = some (.row 164 19 d (rows (initM o) (newLay o m c mm n))))
  (h3:getH H2 mm = some (.row 2 1 d (o.mem.map i64))) (h4:∃ d,getH H2 n = some (.row 137 2 d [])) (h5:∀ i,i < o.cores.length→∃ d,getH H2 (n + 1 + i) = some (.row 135 3 d [])) :
  MAt o (initM o) (newLay o m c mm n) H2 (n + 1 + o.cores.length):=by
 refine ⟨h1,h2,⟨_,h3⟩,h4,?_,?_,?_,?_⟩
 ·intro i hi
  have hi2:i < o.cores.length:=by simpa [initM] using hi
  have e1:(newLay o m c mm n).bufs.getD i 0 = n + 1 + i:=by simp [newLay,List.getD,hi2]
  have e2:((initM o).cores.getD i default).buf = []:=by simp [initM,List.getD,hi2,core0]
  rw [e1,e2];exact h5 i hi2
 ·simp [newLay,initM]
 ·intro b hb
  rcases newLay_ids o hb with h|h|h|h <;> omega
 ·simp only [newLay,Lay.ids,List.nodup_cons,List.mem_cons,not_or,List.mem_map,List.mem_range,not_exists,not_and]
  refine ⟨⟨a1,a2,by omega,fun i hi => by omega⟩,⟨a3,by omega,fun i hi => by omega⟩,⟨by omega,fun i hi => by omega⟩,fun i hi => by omega,?_⟩
  refine List.pairwise_iff_getElem.2 fun i j hi hj hij => ?_
  simp;omega
theorem avle_core {c c2:Cx} (hle:c.le c2) {b:Nat} (h:AVle c c2 (.sc (.slice none 0 0)) (.sl b 0)):AVle c c2 zcore (core0.av b) :=
 AVle.agg (.cons (AVle.keep hle _) (.cons (AVle.keep hle _) (.cons (AVle.keep hle _) (.cons (AVle.keep hle _) (.cons (AVle.keep hle _) (.cons (AVle.keep hle _) (.cons (AVle.keep hle _) (.cons (AVle.keep hle _) (.cons (AVle.keep hle _) (.cons (AVle.keep hle _) (.cons (AVle.keep hle _) (.cons (AVle.keep hle _) (.cons (AVle.keep hle _) (.cons (AVle.keep hle _) (.cons (AVle.keep hle _) (.cons (AVle.keep hle _) (.cons (AVle.keep hle _) (.cons (AVle.keep hle _) (.cons h .nil)))))))))))))))))))
theorem new_tell {o:Obj} {m c mm n:Nat} {H' Hd:Hp} {v:AV} (hm:m < n) (hc:c < n) (hmm:mm < n) (a1:m ≠ c) (a2:m ≠ mm) (a3:c ≠ mm)
  (r1:∃ d,getH H' m = some (.row 92 8 d [.agg [.sc (.slice none 0 0),i64 o.shared,i64 o.locks,i64 o.buffer,v,.sl c o.cores.length,.sl mm o.mem.length,.sc (.slice none 0 0)]]))
  (r2:∃ d,getH H' c = some (.row 164 19 d (List.replicate o.cores.length zcore)))
  (hd:∀ b,getH Hd b = getH H' b ∨ getH Hd b = none)
  (hv2:∀ (w0:World) (x x2:Cx),Sim w0 x→x.H = getH H'→x2.w = x.w→x.le x2→(∀ b k blk p z,getH H' b = some k→getH (newH o m c mm n Hd) b = none→x.ρ b = some (blk,p,z)→¬ x2.M blk)→AVle x x2 v (.im 2 .any (o.cores.map Core.av))) :
  Wk (.tup [.pt m 1 0 0,i64 0]) H' n (.tup [.pt m 1 0 0,i64 0]) (newH o m c mm n Hd) (n + 1 + o.cores.length):=by
 obtain ⟨d1,r1⟩:=r1
 obtain ⟨d2,r2⟩:=r2
 have look:∀ b,getH (newH o m c mm n Hd) b = if b = m then some (.row 92 8 .any [machAv o (initM o) (newLay o m c mm n)]) else if b = c then some (.row 164 19 .any (rows (initM o) (newLay o m c mm n))) else if b = n then some (.row 137 2 .any []) else if n + 1 ≤ b∧b < n + 1 + o.cores.length then some (.row 135 3 .any []) else getH Hd b:=by
  intro b
  rw [newH]
  by_cases h1:b = m
  ·subst h1;rw [getH_here,if_pos rfl]
  rw [getH_skipEq h1,if_neg h1]
  by_cases h2:b = c
  ·subst h2;rw [getH_here,if_pos rfl]
  rw [getH_skipEq h2,if_neg h2]
  by_cases h3:b = n
  ·subst h3;rw [getH_here,if_pos rfl]
  rw [getH_skipEq h3,if_neg h3,getH_addB]
 refine Wk.tell (by omega) (fun b e sz d es he => ?_) (fun w0 x x2 hS hU hx hx2 hw hle hnew hM => ⟨AVle.keep hle _,fun b e sz d es d0 es0 he he0 => ?_⟩)
 ·rw [look] at he
  by_cases h1:b = m
  ·subst h1;rw [if_pos rfl] at he;cases he
   exact .inl ⟨_,_,r1,rfl⟩
  rw [if_neg h1] at he
  by_cases h2:b = c
  ·subst h2;rw [if_pos rfl] at he;cases he
   exact .inl ⟨_,_,r2,by rw [newRows];simp⟩
  rw [if_neg h2] at he
  by_cases h3:b = n
  ·subst h3;rw [if_pos rfl] at he;cases he
   exact .inr ⟨by omega,by omega,rfl,by omega⟩
  rw [if_neg h3] at he
  by_cases h4:n + 1 ≤ b∧b < n + 1 + o.cores.length
  ·rw [if_pos h4] at he;cases he
   exact .inr ⟨by omega,by omega,rfl,by omega⟩
  rw [if_neg h4] at he
  rcases hd b with h5|h5
  ·rw [h5] at he;exact .inl ⟨_,_,he,rfl⟩
  ·rw [h5] at he;cases he
 ·have hnil:∀ b,(b = n ∨ (n + 1 ≤ b∧b < n + 1 + o.cores.length))→AVle x x2 (.sc (.slice none 0 0)) (.sl b 0):=by
   intro b hb
   have hb2:∃ e sz,0 < sz∧getH (newH o m c mm n Hd) b = some (.row e sz .any []):=by
    rw [look,if_neg (by omega),if_neg (by omega)]
    rcases hb with h|h
    ·rw [if_pos h];exact ⟨_,2,by omega,rfl⟩
    ·rw [if_neg (by omega),if_pos h];exact ⟨_,3,by omega,rfl⟩
   obtain ⟨e,sz,_,hb3⟩:=hb2
   obtain ⟨g1,g2⟩:=hnew b e sz .any (by omega) hb3
   exact AVle.nil g1 (by rw [hx2];exact hb3) g2
  rw [look] at he
  by_cases h1:b = m
  ·subst h1;rw [if_pos rfl] at he;cases he
   rw [r1] at he0;cases he0
   have hlen:(initM o).cores.length = o.cores.length:=by simp [initM]
   rw [machAv,hlen]
   exact .cons (AVle.agg (.cons (AVle.keep hle _) (.cons (AVle.keep hle _) (.cons (AVle.keep hle _) (.cons (AVle.keep hle _) (.cons (hv2 w0 x x2 hS hx hw hle hM) (.cons (AVle.keep hle _) (.cons (AVle.keep hle _) (.cons (hnil n (.inl rfl)) .nil))))))))) .nil
  rw [if_neg h1] at he
  by_cases h2:b = c
  ·subst h2;rw [if_pos rfl] at he;cases he
   rw [r2] at he0;cases he0
   rw [newRows]
   refine AVles.of_get (by simp) fun i hi => ?_
   have hi2:i < o.cores.length:=by simpa using hi
   have e1:(List.replicate o.cores.length zcore).getD i .any = zcore:=by simp [List.getD,hi2]
   have e2:((List.range o.cores.length).map fun i => core0.av (n + 1 + i)).getD i .any = core0.av (n + 1 + i):=by simp [List.getD,hi2]
   rw [e1,e2]
   exact avle_core hle (hnil _ (.inr ⟨by omega,by omega⟩))
  rw [if_neg h2] at he
  by_cases h3:b = n
  ·subst h3;rw [if_pos rfl] at he;cases he
   have:=hU b (hS.row b _ _ _ _ (by rw [hx];exact he0)).1
   omega
  rw [if_neg h3] at he
  by_cases h4:n + 1 ≤ b∧b < n + 1 + o.cores.length
  ·rw [if_pos h4] at he;cases he
   have:=hU b (hS.row b _ _ _ _ (by rw [hx];exact he0)).1
   omega
  rw [if_neg h4] at he
  rcases hd b with h5|h5
  ·rw [h5,he0] at he;cases he;exact AVles.keep hle _
  ·rw [h5] at he;cases he
theorem born {o:Obj} {m c mm n nx:Nat} {H Hd:Hp} (hn:nx ≤ n) (hm:nx ≤ m∧m < n) (hc:nx ≤ c∧c < n) (hmm:nx ≤ mm∧mm < n) (a1:m ≠ c) (a2:m ≠ mm) (a3:c ≠ mm) (r3:∃ d,getH Hd mm = some (.row 2 1 d (o.mem.map i64))) (hf:∀ b,b < nx→getH Hd b = getH H b) :
  Born o H nx (.tup [.pt m 1 0 0,i64 0]) (newH o m c mm n Hd) (n + 1 + o.cores.length):=by
 obtain ⟨d3,r3⟩:=r3
 have look:∀ b,getH (newH o m c mm n Hd) b = if b = m then some (.row 92 8 .any [machAv o (initM o) (newLay o m c mm n)]) else if b = c then some (.row 164 19 .any (rows (initM o) (newLay o m c mm n))) else if b = n then some (.row 137 2 .any []) else if n + 1 ≤ b∧b < n + 1 + o.cores.length then some (.row 135 3 .any []) else getH Hd b:=by
  intro b
  rw [newH]
  by_cases h1:b = m
  ·subst h1;rw [getH_here,if_pos rfl]
  rw [getH_skipEq h1,if_neg h1]
  by_cases h2:b = c
  ·subst h2;rw [getH_here,if_pos rfl]
  rw [getH_skipEq h2,if_neg h2]
  by_cases h3:b = n
  ·subst h3;rw [getH_here,if_pos rfl]
  rw [getH_skipEq h3,if_neg h3,getH_addB]
 refine ⟨newLay o m c mm n,rfl,?_,by omega,fun b hb => ?_,fun b hb => ?_⟩
 ·have r3b:getH (newH o m c mm n Hd) mm = some (.row 2 1 d3 (o.mem.map i64)):=by
   rw [look,if_neg (Ne.symm a2),if_neg (Ne.symm a3),if_neg (by omega),if_neg (by omega)];exact r3
  refine newMAt (d:=d3) o hm.2 hc.2 hmm.2 a1 a2 a3 ⟨_,by rw [look,if_pos rfl]⟩ ⟨_,by rw [look,if_neg (Ne.symm a1),if_pos rfl]⟩ r3b ⟨_,by rw [look,if_neg (by omega),if_neg (by omega),if_pos rfl]⟩ (fun i hi => ⟨_,by rw [look,if_neg (by omega),if_neg (by omega),if_neg (by omega),if_pos (by omega)]⟩)
 ·rcases newLay_ids o hb with h|h|h|h <;> omega
 ·rw [look,if_neg (by omega),if_neg (by omega),if_neg (by omega),if_neg (by omega)];exact hf b hb
theorem new_ok {o:Obj} (ho:o.Wf) (ok:ObjOk o) (h:objOk o = true) {H:Hp} {nx:Nat}:CallN Tryz.prog 9 [o.av] H nx (Born o H nx):=by
 refine (new_ok0 ho ok h).wk ?_
 rintro r H' n ⟨hn,m,c,mm,v,rfl,hm,hc,hmm,a1,a2,a3,⟨d1,_,r1,rfl⟩,⟨d2,_,r2,rfl⟩,⟨d3,r3⟩,hv,hf⟩
 rcases hv with ⟨rfl,hoc⟩|⟨cb,d4,rfl,hcb,b1,b2,b3,r4⟩
 ·refine ⟨_,_,_,new_tell (Hd:=H') hm.2 hc.2 hmm.2 a1 a2 a3 ⟨_,r1⟩ ⟨_,r2⟩ (fun b => .inl rfl) (fun w0 x x2 _ _ _ _ _ => ?_),born hn hm hc hmm a1 a2 a3 ⟨_,r3⟩ hf⟩
  rw [hoc];exact AVle.nilIm _ _ _ _
 ·refine ⟨_,_,_,new_tell (Hd:=(cb,none) :: H') hm.2 hc.2 hmm.2 a1 a2 a3 ⟨_,r1⟩ ⟨_,r2⟩ (fun b => ?_) (fun w0 x x2 hS hx hw hle hM => ?_),born hn hm hc hmm a1 a2 a3 ⟨d3,by rw [getH_skipEq (Ne.symm b3)];exact r3⟩ (fun b hb => by rw [getH_skipEq (by omega)];exact hf b hb)⟩
  ·by_cases hb:b = cb
   ·subst hb;exact .inr (getH_here _ _ _)
   ·exact .inl (getH_skipEq hb)
  ·have hl:o.cores.length = (o.cores.map Core.av).length:=by simp
   rw [hl]
   refine AVle.im hS hle .any hw (by rw [hx];exact r4) (fun blk p z hρ => hM cb _ blk p z r4 ?_ hρ)
   rw [newH_at o _ _ b1 b2 hcb.2,getH_here]
end Go.Proofs.YtflicfkgbjmffaaGreat.V
end
