import Derived.Test.YtflicfkgbjmffaaGreatM27
import Derived.Test.YtflicfkgbjmffaaGreatM24
section
/- What stays right. -/
namespace Go.Proofs.YtflicfkgbjmffaaGreat.V
open Go Go.Abs Go.Proofs
set_option linter.unusedSimpArgs false
set_option linter.unusedVariables false
theorem coresOk_get:∀ {l pre:List Core},coresOk pre l = true→∀ q,q < l.length→∃ p,coreOk p (l.getD q default) = true
 | [],_,_,q,h => by simp at h
 | c :: r,pre,h,q,hq => by
  rw [coresOk,Bool.and_eq_true] at h
  cases q with
  | zero => exact ⟨pre,h.1⟩
  | succ q =>
   obtain ⟨p,hp⟩:=coresOk_get h.2 q (by simpa using hq)
   exact ⟨p,by simpa using hp⟩
theorem bad1_get {len mem:Int}:∀ {l:List Instr} {k:Nat},bad1 len mem l k = none→∀ q,q < l.length→instrOk (l.getD q default) len mem = true
 | [],_,_,q,h => by simp at h
 | i :: r,k,h,q,hq => by
  rw [bad1] at h
  by_cases hi:instrOk i len mem = true
  ·rw [if_pos hi] at h
   cases q with
   | zero => exact hi
   | succ q => simpa using bad1_get h q (by simpa using hq)
  ·rw [if_neg hi] at h;cases h
theorem bad2_get {mem:Int}:∀ {l:List Core} {k:Nat},bad2 mem l k = none→∀ q,q < l.length→bad1 (l.getD q default).code.length mem (l.getD q default).code 0 = none
 | [],_,_,q,h => by simp at h
 | c :: r,k,h,q,hq => by
  rw [bad2] at h
  cases hb:bad1 c.code.length mem c.code 0 with
  | some n => rw [hb] at h;cases h
  | none =>
   rw [hb] at h
   cases q with
   | zero => exact hb
   | succ q => simpa using bad2_get h q (by simpa using hq)
theorem objOk_ok {o:Obj} (h:objOk o = true):ObjOk o:=by
 simp only [objOk,Bool.and_eq_true,Option.isNone_iff_eq_none] at h
 obtain ⟨h1,h2⟩:=h
 simp only [shapedOk,Bool.and_eq_true,decide_eq_true_eq] at h1
 obtain ⟨⟨⟨⟨⟨⟨⟨⟨⟨p1,p2⟩,p3⟩,p4⟩,p5⟩,p6⟩,p7⟩,p8⟩,p9⟩,p10⟩:=h1
 have hc:=fun q (hq:q < o.cores.length) => coresOk_get p10 q hq
 refine ⟨⟨p7,p8⟩,by omega,by omega,fun q hq => ?_,fun q hq => ?_,fun q hq k hk => bad1_get (bad2_get h2 q hq) k hk⟩
 ·obtain ⟨p,hp⟩:=hc q hq
  simp only [coreOk,Bool.and_eq_true,decide_eq_true_eq] at hp
  exact ⟨hp.1.1.2,hp.1.2⟩
 ·obtain ⟨p,hp⟩:=hc q hq
  simp only [coreOk,Bool.and_eq_true,decide_eq_true_eq] at hp
  exact hp.2
theorem good_init {o:Obj} (ok:ObjOk o):Good o (initM o):=by
 have hc:∀ q,q < (initM o).cores.length→(initM o).core q = core0:=by
  intro q hq
  simp only [initM,List.length_replicate] at hq
  simp [initM,List.getD,hq]
 have hl:(initM o).cores.length = o.cores.length:=by simp [initM]
 refine ⟨hl,rfl,fun q hq => ?_,fun q hq => ?_,fun q hq x hx => ?_⟩
 ·rw [hc q hq]
  have:=ok.code q (by omega)
  exact ⟨by decide,by show (0:Int) < _;omega⟩
 ·rw [hc q hq]
  have:=ok.buffer
  show ((0:Nat):Int) ≤ _;omega
 ·rw [hc q hq] at hx;cases hx
theorem core_set {s:Mach} {q:Nat} (hq:q < s.cores.length) (c:CoreS) (j:Nat):(s.setCore q c).core j = if j = q then c else s.core j:=by
 by_cases h:j = q
 ·subst h;simp [Mach.setCore,List.getD,hq]
 ·rw [if_neg h];simp [Mach.setCore,List.getD,List.getElem?_set_ne (Ne.symm h)]
theorem Good.set {o:Obj} {s:Mach} (g:Good o s) {q:Nat} (hq:q < s.cores.length) {c:CoreS} {mem:List Int} {pr:List PrintS} (hm:mem.length = s.mem.length) (h1:0 ≤ c.pc∧c.pc < (o.core q).code.length) (h2:(c.buf.length:Int) ≤ o.buffer) (h3:∀ x ∈ c.buf,0 ≤ x.addr∧x.addr < s.mem.length) :
  Good o { s.setCore q c with mem:=mem,prints:=pr }:=by
 have hc:=core_set hq c
 have hl:({ s.setCore q c with mem:=mem,prints:=pr }:Mach).cores.length = s.cores.length:=by simp [Mach.setCore]
 refine ⟨hl.trans g.n,hm.trans g.mem,fun j hj => ?_,fun j hj => ?_,fun j hj x hx => ?_⟩
 ·have e:({ s.setCore q c with mem:=mem,prints:=pr }:Mach).core j = if j = q then c else s.core j:=hc j
  rw [e]
  split
  ·rename_i h;rw [h];exact h1
  ·exact g.pc j (by rw [hl] at hj;exact hj)
 ·have e:({ s.setCore q c with mem:=mem,prints:=pr }:Mach).core j = if j = q then c else s.core j:=hc j
  rw [e]
  split
  ·exact h2
  ·exact g.buf j (by rw [hl] at hj;exact hj)
 ·have e:({ s.setCore q c with mem:=mem,prints:=pr }:Mach).core j = if j = q then c else s.core j:=hc j
  rw [e] at hx
  show 0 ≤ x.addr∧x.addr < mem.length
  rw [hm]
  split at hx
  ·exact h3 x hx
  ·exact g.addr j (by rw [hl] at hj;exact hj) x hx
theorem inc_set {s:Mach} {q:Nat} (c:CoreS):(s.inc q).setCore q c = s.setCore q c:=by
 simp [Mach.inc,Mach.setCore]
theorem Good.set0 {o:Obj} {s:Mach} (g:Good o s) {q:Nat} (hq:q < s.cores.length) {c:CoreS} (h1:0 ≤ c.pc∧c.pc < (o.core q).code.length) (h2:(c.buf.length:Int) ≤ o.buffer) (h3:∀ x ∈ c.buf,0 ≤ x.addr∧x.addr < s.mem.length):Good o (s.setCore q c) :=
 g.set hq (mem:=s.mem) (pr:=s.prints) rfl h1 h2 h3
theorem Good.acts {o:Obj} {s:Mach} (g:Good o s) (ok:ObjOk o) {q:Nat} (hq:q < s.cores.length) (did:DidS) (hdp:did.pc = (s.core q).pc) (hst:stallsF o s q (instrAt o s q) = false):Good o (act (s.inc q) q (instrAt o s q) did).1:=by
 have hqo:q < o.cores.length:=by rw [← g.n];exact hq
 have iok:ActOk (instrAt o s q) (o.core q).code.length o.mem.length:=instrOk_act (ok.ok q hqo (s.core q).pc.toNat (by have:=g.pc q hq;omega))
 have hp:=g.pc q hq
 have hb:=g.buf q hq
 have ha:=g.addr q hq
 have hpc:(instrAt o s q).kind ≠ 8→(instrAt o s q).kind ≠ 10→(s.core q).pc + 1 < (o.core q).code.length:=by
  intro h8 h10
  have hl:=ok.last q hqo
  have hlc:=ok.code q hqo
  simp only [lastOk,Bool.or_eq_true,decide_eq_true_eq] at hl
  refine Decidable.byContradiction fun hn => ?_
  have he:(s.core q).pc.toNat = (((o.core q).code.length:Int) - 1).toNat:=by omega
  rw [instrAt,he] at h8 h10
  rcases hl with hl|hl
  ·exact h10 hl
  ·exact h8 hl
 have hc:=inc_core hq
 have hm:(s.inc q).mem = s.mem:=rfl
 have hpr:(s.inc q).prints = s.prints:=rfl
 generalize instrAt o s q = i at *
 have hk:=kinds iok.kind
 by_cases k1:i.kind = 1
 ·simp only [act,if_pos k1,doSet,inc_set,hc]
  exact g.set0 hq ⟨by show 0 ≤ (s.core q).pc + 1;omega,hpc (by omega) (by omega)⟩ hb ha
 by_cases k2:i.kind = 2
 ·simp only [act,if_neg k1,if_pos k2,doOp,inc_set,hc]
  exact g.set0 hq ⟨by show 0 ≤ (s.core q).pc + 1;omega,hpc (by omega) (by omega)⟩ hb ha
 by_cases k3:i.kind = 3
 ·simp only [act,if_neg k1,if_neg k2,if_pos k3,doLoad,inc_set,hc]
  exact g.set0 hq ⟨by show 0 ≤ (s.core q).pc + 1;omega,hpc (by omega) (by omega)⟩ hb ha
 by_cases k4:i.kind = 4
 ·simp only [act,if_neg k1,if_neg k2,if_neg k3,if_pos k4,doStore,inc_set,hc]
  simp only [stallsF,if_pos k4,decide_eq_false_iff_not] at hst
  refine g.set0 hq ⟨by show 0 ≤ (s.core q).pc + 1;omega,hpc (by omega) (by omega)⟩ ?_ ?_
  ·show (((s.core q).buf ++ [_]).length:Int) ≤ _
   simp only [List.length_append,List.length_cons,List.length_nil];omega
  ·intro x hx
   rcases List.mem_append.1 hx with hx|hx
   ·exact ha x hx
   ·simp only [List.mem_singleton] at hx
    subst hx
    have h2:=iok.addr (by omega)
    rw [g.mem];exact h2
 by_cases k5:i.kind = 5
 ·simp only [act,if_neg k1,if_neg k2,if_neg k3,if_neg k4,if_pos k5,doSwap,inc_set,hc,hm]
  exact g.set hq (by simp) ⟨by show 0 ≤ (s.core q).pc + 1;omega,hpc (by omega) (by omega)⟩ hb ha
 by_cases k6:i.kind = 6
 ·simp only [act,if_neg k1,if_neg k2,if_neg k3,if_neg k4,if_neg k5,if_pos k6,doFence,inc_set,hc]
  exact g.set0 hq ⟨by show 0 ≤ (s.core q).pc + 1;omega,hpc (by omega) (by omega)⟩ hb ha
 by_cases k7:i.kind = 7
 ·simp only [act,if_neg k1,if_neg k2,if_neg k3,if_neg k4,if_neg k5,if_neg k6,if_pos k7,doPrint,inc_set,hc]
  exact g.set hq (mem:=s.mem) rfl ⟨by show 0 ≤ (s.core q).pc + 1;omega,hpc (by omega) (by omega)⟩ hb ha
 by_cases k8:i.kind = 8
 ·simp only [act,if_neg k1,if_neg k2,if_neg k3,if_neg k4,if_neg k5,if_neg k6,if_neg k7,if_pos k8,doJump,inc_set,hc]
  exact g.set0 hq (iok.to (by omega)) hb ha
 by_cases k9:i.kind = 9
 ·simp only [act,if_neg k1,if_neg k2,if_neg k3,if_neg k4,if_neg k5,if_neg k6,if_neg k7,if_neg k8,if_pos k9,doZero,inc_set,hc]
  split
  ·exact g.set0 hq (iok.to (by omega)) hb ha
  ·exact g.set0 hq ⟨by show 0 ≤ (s.core q).pc + 1;omega,hpc (by omega) (by omega)⟩ hb ha
 simp only [act,if_neg k1,if_neg k2,if_neg k3,if_neg k4,if_neg k5,if_neg k6,if_neg k7,if_neg k8,if_neg k9,doHalt,inc_set,hc]
 exact g.set0 hq (by show 0 ≤ did.pc∧did.pc < _;rw [hdp];exact hp) hb ha
theorem Good.run {o:Obj} {s:Mach} (g:Good o s) (ok:ObjOk o) (k:Int):Good o (runS o s k).1:=by
 rw [runS]
 by_cases h1:out s k
 ·rw [if_pos h1];exact g
 rw [if_neg h1]
 by_cases h2:(s.core k.toNat).halted = true
 ·rw [if_pos h2];exact g
 rw [if_neg h2]
 by_cases h3:stallsF o s k.toNat (instrAt o s k.toNat) = true
 ·rw [if_pos h3];exact g
 rw [if_neg h3]
 exact g.acts ok (by unfold out at h1;omega) _ rfl (by simpa using h3)
theorem Good.drain {o:Obj} {s:Mach} (g:Good o s) (k:Int):Good o (drainS o s k).1:=by
 rw [drainS]
 by_cases h1:out s k
 ·rw [if_pos h1];exact g
 rw [if_neg h1]
 have hq:k.toNat < s.cores.length:=by unfold out at h1;omega
 have hb:=g.buf _ hq
 have ha:=g.addr _ hq
 cases hbuf:(s.core k.toNat).buf with
 | nil => exact g
 | cons x t =>
  rw [hbuf] at hb ha
  simp only [List.length_cons] at hb
  exact g.set hq (by simp) (g.pc _ hq) (by show (t.length:Int) ≤ _;omega) (fun y hy => ha y (by simp [hy]))
theorem Good.step {o:Obj} {s:Mach} (g:Good o s) (ok:ObjOk o) (kind k:Int):Good o (stepS o s kind k).1:=by
 rw [stepS]
 split
 ·exact g.run ok k
 ·split
  ·exact g.drain k
  ·exact g
theorem prints_run (o:Obj) (s:Mach) (k:Int):(runS o s k).1.prints.length ≤ s.prints.length + 1:=by
 have ha:∀ (i:Instr) (d:DidS) (q:Nat),(act (s.inc q) q i d).1.prints.length ≤ s.prints.length + 1:=by
  intro i d q
  simp only [act]
  repeat' split
  all_goals simp [doSet,doOp,doLoad,doStore,doSwap,doFence,doPrint,doJump,doZero,doHalt,Mach.setCore,Mach.inc]
 rw [runS]
 repeat' split
 all_goals first|exact ha _ _ _|simp
theorem prints_step (o:Obj) (s:Mach) (kind k:Int):(stepS o s kind k).1.prints.length ≤ s.prints.length + 1:=by
 rw [stepS]
 split
 ·exact prints_run o s k
 ·split
  ·rw [drainS]
   repeat' split
   all_goals simp [Mach.setCore]
  ·simp
end Go.Proofs.YtflicfkgbjmffaaGreat.V
/- What the laws ask of a machine. -/
namespace Go.Proofs.YtflicfkgbjmffaaGreat.V
open Go Go.Abs Go.Proofs
set_option linter.unusedSimpArgs false
set_option linter.unusedVariables false
def Made (o:Obj) (H:Hp) (nx:Nat):AV→Hp→Nat→Prop:=fun r H' n => ∃ L,r = .tup [.pt L.m 1 0 0,bl true]∧MAt o (initM o) L H' n∧nx ≤ n∧(∀ b ∈ L.ids,nx ≤ b)∧∀ b,b < nx→getH H' b = getH H b
end Go.Proofs.YtflicfkgbjmffaaGreat.V
end
section
/- One round with the store drained right behind it. -/
namespace Go.Proofs.YtflicfkgbjmffaaGreat.V
open Go Go.Abs Go.Proofs
set_option linter.unusedSimpArgs false
set_option linter.unusedVariables false
end Go.Proofs.YtflicfkgbjmffaaGreat.V
/- A machine that is looked at alone. -/
namespace Go.Proofs.YtflicfkgbjmffaaGreat.V
open Go Go.Abs Go.Proofs
set_option linter.unusedSimpArgs false
set_option linter.unusedVariables false
abbrev CoreS.frozen (c:CoreS):AV:=.agg (c.cells (.im 3 .any (c.buf.map StoreS.av)))
def Mach.frozen (o:Obj) (s:Mach):AV:=.ip 8 .any [.agg [.sc (.slice none 0 0),i64 o.shared,i64 o.locks,i64 o.buffer,.im 2 .any (o.cores.map Core.av),.im 19 .any (s.cores.map CoreS.frozen),.im 1 .any (s.mem.map i64),.im 2 .any (s.prints.map PrintS.av)]] 0 0
theorem MAt.frz {o:Obj} {s:Mach} {L:Lay} {H:Hp} {nx:Nat} (h:MAt o s L H nx):frz H 6 (.pt L.m 1 0 0) = s.frozen o:=by
 obtain ⟨d1,h1⟩:=h.m
 obtain ⟨d2,h2⟩:=h.c
 obtain ⟨d3,h3⟩:=h.mem
 obtain ⟨d4,h4⟩:=h.pr
 have hcores:(rows s L).map (Abs.frz H 3) = s.cores.map CoreS.frozen:=by
  apply List.ext_getElem
  ·simp [rows,h.lens]
  ·intro i p1 p2
   have hi:i < s.cores.length:=by simpa using p2
   have hib:i < L.bufs.length:=by rw [h.lens];exact hi
   obtain ⟨d5,h5⟩:=h.bufs i hi
   have e1:L.bufs.getD i 0 = L.bufs[i]:=by simp [List.getD,hib]
   have e2:s.cores.getD i default = s.cores[i]:=by simp [List.getD,hi]
   rw [e1,e2] at h5
   simp only [List.getElem_map,rows,List.getElem_zipWith,CoreS.av,Abs.frz,CoreS.cells,List.map_cons,List.map_nil,frz_sc,h5]
   rw [if_pos (by simp),frz_same 1 (by simp [fitL_map,fitA,fitL])]
   rfl
 rw [frz_at (len:=1) h1 (by rfl),Mach.frozen]
 simp only [List.map_cons,List.map_nil,Abs.frz,frz_sc,h2,h3,h4]
 rw [if_pos (rows_len h),if_pos (by simp),if_pos (by simp),hcores,frz_same 3 (by simp [fitL_map,fitA]),frz_same 3 (by simp [fitL_map,fitA,fitL])]
end Go.Proofs.YtflicfkgbjmffaaGreat.V
/- What a step does, told by what it says that it did. -/
namespace Go.Proofs.YtflicfkgbjmffaaGreat.V
open Go Go.Abs Go.Proofs
set_option linter.unusedSimpArgs false
set_option linter.unusedVariables false
structure Does (s:Mach) (q:Nat) (d:DidS) (s2:Mach):Prop where
 lt:q < s.cores.length
 core:d.core = q
 kind:1 ≤ d.kind∧d.kind ≤ 8
 other:∀ j,j ≠ q→s2.core j = s.core j
 buf:(s2.core q).buf = if d.kind = 3 then (s.core q).buf ++ [⟨d.pc,d.addr,d.word⟩] else if d.kind = 8 then (s.core q).buf.tail else (s.core q).buf
 drain:d.kind = 8→(s.core q).buf = ⟨d.pc,d.addr,d.word⟩ :: (s.core q).buf.tail
 wait:d.kind = 4 ∨ d.kind = 5 ∨ d.kind = 6→(s.core q).buf = []
 addr:d.kind = 2 ∨ d.kind = 3 ∨ d.kind = 4 ∨ d.kind = 8→0 ≤ d.addr∧d.addr < s.mem.length
 load:d.kind = 2→(d.word,d.own) = seenF d.addr (s.core q).buf (s.mem.getD d.addr.toNat 0,false)
 swap:d.kind = 4→d.word = s.mem.getD d.addr.toNat 0
 mem:s2.mem = if d.kind = 4 then s.mem.set d.addr.toNat d.put else if d.kind = 8 then s.mem.set d.addr.toNat d.word else s.mem
 prints:s2.prints = if d.kind = 6 then s.prints ++ [⟨q,d.word⟩] else s.prints
theorem core_set2 {s:Mach} {q:Nat} (hq:q < s.cores.length) (c:CoreS) (mem:List Int) (pr:List PrintS) (j:Nat):({ s.setCore q c with mem:=mem,prints:=pr }:Mach).core j = if j = q then c else s.core j:=core_set hq c j
theorem does_act {o:Obj} {s:Mach} (g:Good o s) (ok:ObjOk o) {q:Nat} (hq:q < s.cores.length) (hst:stallsF o s q (instrAt o s q) = false) :
  Does s q (act (s.inc q) q (instrAt o s q) { did0 with core:=q,pc:=(s.core q).pc }).2 (act (s.inc q) q (instrAt o s q) { did0 with core:=q,pc:=(s.core q).pc }).1:=by
 have hqo:q < o.cores.length:=by rw [← g.n];exact hq
 have iok:ActOk (instrAt o s q) (o.core q).code.length o.mem.length:=instrOk_act (ok.ok q hqo (s.core q).pc.toNat (by have:=g.pc q hq;omega))
 have hc:=inc_core hq
 have hm:(s.inc q).mem = s.mem:=rfl
 have hpr:(s.inc q).prints = s.prints:=rfl
 have hk:=kinds iok.kind
 have hmm:∀ c:CoreS,(s.setCore q c).mem = s.mem:=fun _ => rfl
 have hpp:∀ c:CoreS,(s.setCore q c).prints = s.prints:=fun _ => rfl
 have oth:∀ (c:CoreS) (mem:List Int) (pr:List PrintS) j,j ≠ q→({ s.setCore q c with mem:=mem,prints:=pr }:Mach).core j = s.core j:=fun c mem pr j hj => by rw [core_set2 hq,if_neg hj]
 have oth0:∀ (c:CoreS) j,j ≠ q→(s.setCore q c).core j = s.core j:=fun c j hj => by rw [core_set hq,if_neg hj]
 have slf:∀ (c:CoreS) (mem:List Int) (pr:List PrintS),({ s.setCore q c with mem:=mem,prints:=pr }:Mach).core q = c:=fun c mem pr => by rw [core_set2 hq,if_pos rfl]
 have slf0:∀ (c:CoreS),(s.setCore q c).core q = c:=fun c => by rw [core_set hq,if_pos rfl]
 have hadr:=iok.addr
 rw [← g.mem] at hadr
 have hwait:(instrAt o s q).kind = 5 ∨ (instrAt o s q).kind = 6 ∨ (instrAt o s q).kind = 7→(s.core q).buf = []:=by
  intro h
  rw [stallsF,if_neg (by omega),if_pos h] at hst
  simp only [decide_eq_false_iff_not] at hst
  exact List.eq_nil_of_length_eq_zero (by omega)
 generalize instrAt o s q = i at *
 by_cases k1:i.kind = 1
 ·simp only [act,if_pos k1,doSet,inc_set,hc]
  exact ⟨hq,rfl,by simp,oth0 _,by rw [slf0];simp [CoreS.put],by simp,by simp,by simp,by simp,by simp,by simp [hmm],by simp [hpp]⟩
 by_cases k2:i.kind = 2
 ·simp only [act,if_neg k1,if_pos k2,doOp,inc_set,hc]
  exact ⟨hq,rfl,by simp,oth0 _,by rw [slf0];simp [CoreS.put],by simp,by simp,by simp,by simp,by simp,by simp [hmm],by simp [hpp]⟩
 by_cases k3:i.kind = 3
 ·simp only [act,if_neg k1,if_neg k2,if_pos k3,doLoad,inc_set,hc,hm]
  exact ⟨hq,rfl,by simp,oth0 _,by rw [slf0];simp [CoreS.put],by simp,by simp,fun _ => hadr (by omega),fun _ => rfl,by simp,by simp [hmm],by simp [hpp]⟩
 by_cases k4:i.kind = 4
 ·simp only [act,if_neg k1,if_neg k2,if_neg k3,if_pos k4,doStore,inc_set,hc]
  exact ⟨hq,rfl,by simp,oth0 _,by rw [slf0];simp,by simp,by simp,fun _ => hadr (by omega),by simp,by simp,by simp [hmm],by simp [hpp]⟩
 by_cases k5:i.kind = 5
 ·simp only [act,if_neg k1,if_neg k2,if_neg k3,if_neg k4,if_pos k5,doSwap,inc_set,hc,hm]
  exact ⟨hq,rfl,by simp,oth _ _ _,by rw [slf];simp [CoreS.put],by simp,fun _ => hwait (by omega),fun _ => hadr (by omega),by simp,fun _ => rfl,by simp [CoreS.put],by simp [hpp]⟩
 by_cases k6:i.kind = 6
 ·simp only [act,if_neg k1,if_neg k2,if_neg k3,if_neg k4,if_neg k5,if_pos k6,doFence,inc_set,hc]
  exact ⟨hq,rfl,by simp,oth0 _,by rw [slf0];simp,by simp,fun _ => hwait (by omega),by simp,by simp,by simp,by simp [hmm],by simp [hpp]⟩
 by_cases k7:i.kind = 7
 ·simp only [act,if_neg k1,if_neg k2,if_neg k3,if_neg k4,if_neg k5,if_neg k6,if_pos k7,doPrint,inc_set,hc,hmm,hpr]
  exact ⟨hq,rfl,by simp,oth _ _ _,by rw [slf];simp,by simp,fun _ => hwait (by omega),by simp,by simp,by simp,by simp [hm],by simp⟩
 by_cases k8:i.kind = 8
 ·simp only [act,if_neg k1,if_neg k2,if_neg k3,if_neg k4,if_neg k5,if_neg k6,if_neg k7,if_pos k8,doJump,inc_set,hc]
  exact ⟨hq,rfl,by simp,oth0 _,by rw [slf0];simp,by simp,by simp,by simp,by simp,by simp,by simp [hmm],by simp [hpp]⟩
 by_cases k9:i.kind = 9
 ·simp only [act,if_neg k1,if_neg k2,if_neg k3,if_neg k4,if_neg k5,if_neg k6,if_neg k7,if_neg k8,if_pos k9,doZero,inc_set,hc]
  exact ⟨hq,rfl,by simp,oth0 _,by rw [slf0];split <;> simp,by simp,by simp,by simp,by simp,by simp,by simp [hmm],by simp [hpp]⟩
 simp only [act,if_neg k1,if_neg k2,if_neg k3,if_neg k4,if_neg k5,if_neg k6,if_neg k7,if_neg k8,if_neg k9,doHalt,inc_set,hc]
 exact ⟨hq,rfl,by simp,oth0 _,by rw [slf0];simp,by simp,by simp,by simp,by simp,by simp,by simp [hmm],by simp [hpp]⟩
inductive StepOk (s:Mach) (k:Int):Mach × DidS × Int→Prop where
 | bad (e:Int) (h:e = 180 ∨ e = 181 ∨ e = 182):StepOk s k (s,did0,e)
 | idle (h:0 ≤ k∧k < s.cores.length):StepOk s k (s,did0,0)
 | does (q:Nat) (hq:k = q) (d:DidS) (s2:Mach) (h:Does s q d s2):StepOk s k (s2,d,0)
theorem run_does {o:Obj} {s:Mach} (g:Good o s) (ok:ObjOk o) (k:Int):StepOk s k (runS o s k):=by
 rw [runS]
 by_cases h1:out s k
 ·rw [if_pos h1];exact .bad _ (.inl rfl)
 rw [if_neg h1]
 by_cases h2:(s.core k.toNat).halted = true
 ·rw [if_pos h2];exact .idle (by unfold out at h1;omega)
 rw [if_neg h2]
 by_cases h3:stallsF o s k.toNat (instrAt o s k.toNat) = true
 ·rw [if_pos h3];exact .bad _ (.inr (.inl rfl))
 rw [if_neg h3]
 have hk:k = (k.toNat:Int):=by unfold out at h1;omega
 have:=does_act g ok (q:=k.toNat) (by unfold out at h1;omega) (by simpa using h3)
 rw [← hk] at this
 exact .does k.toNat hk _ _ this
theorem drain_does {o:Obj} {s:Mach} (g:Good o s) (k:Int):StepOk s k (drainS o s k):=by
 rw [drainS]
 by_cases h1:out s k
 ·rw [if_pos h1];exact .bad _ (.inl rfl)
 rw [if_neg h1]
 have hk:k = (k.toNat:Int):=by unfold out at h1;omega
 have hq:k.toNat < s.cores.length:=by unfold out at h1;omega
 have ha:=g.addr _ hq
 cases hb:(s.core k.toNat).buf with
 | nil => exact .idle (by unfold out at h1;omega)
 | cons x t =>
  refine .does k.toNat hk _ _ ⟨hq,hk,by simp,fun j hj => by rw [core_set2 hq,if_neg hj],by rw [core_set2 hq,if_pos rfl,hb];simp,fun _ => by rw [hb];rfl,by simp,fun _ => ha x (by rw [hb];simp),by simp,by simp,by simp,by simp [Mach.setCore]⟩
theorem step_does {o:Obj} {s:Mach} (g:Good o s) (ok:ObjOk o) (kind k:Int):StepOk s k (stepS o s kind k):=by
 rw [stepS]
 split
 ·exact run_does g ok k
 ·split
  ·exact drain_does g k
  ·exact .bad _ (.inr (.inr rfl))
theorem does_len {o:Obj} {s:Mach} (g:Good o s) (ok:ObjOk o) (kind k:Int):(stepS o s kind k).1.cores.length = s.cores.length:=(g.step ok kind k).n.trans g.n.symm
end Go.Proofs.YtflicfkgbjmffaaGreat.V
end
section
/- An execution that is being made of a run: plain data, and what stays right. -/
namespace Go.Proofs.YtflicfkgbjmffaaGreat
open Go Go.Abs Go.Proofs V
set_option linter.unusedSimpArgs false
set_option linter.unusedVariables false
theorem gD_app {α:Type} {l m:List α} {i:Nat} (d:α) (h:i < l.length):(l ++ m).getD i d = l.getD i d:=by
 simp [List.getD,List.getElem?_append_left h]
theorem gD_end {α:Type} (l:List α) (a d:α):(l ++ [a]).getD l.length d = a:=by simp [List.getD]
theorem gD_set {α:Type} {l:List α} {i j:Nat} {v d:α} (hi:i < l.length):(l.set i v).getD j d = if j = i then v else l.getD j d:=by
 simp only [List.getD,List.getElem?_set]
 by_cases h:j = i
 ·subst h;simp [hi]
 ·rw [if_neg (Ne.symm h),if_neg h]
structure GS where
 ev:List Deed
 frm:List Int
 aft:List (List Int)
 last:List Int
 q:List (List Int)
 deriving Inhabited
abbrev GS.e (g:GS) (i:Nat):Deed:=g.ev.getD i default
abbrev GS.f (g:GS) (i:Nat):Int:=g.frm.getD i 0
abbrev GS.a (g:GS) (t:Nat):List Int:=g.aft.getD t []
abbrev GS.l (g:GS) (t:Nat):Int:=g.last.getD t 0
abbrev GS.w (g:GS) (c:Nat):List Int:=g.q.getD c []
def ownL (ev:List Deed) (a:Int):List Int→Int→Int
 | [],r => r
 | k :: t,r => ownL ev a t (if (ev.getD k.toNat default).thing = a then k else r)
def GS.put (g:GS) (d:Deed) (f:Int):GS:={ g with ev:=g.ev ++ [d],frm:=g.frm ++ [f] }
def GS.came (g:GS) (t:Nat) (k:Int):GS:={ g with aft:=g.aft.set t (g.a t ++ [k]),last:=g.last.set t k }
def GS.seen (g:GS) (d:DidS):Int:=if d.own = true then ownL g.ev d.addr (g.w d.core.toNat) (g.l d.addr.toNat) else g.l d.addr.toNat
def GS.did (g:GS) (d:DidS):GS :=
 if d.kind = 2 then g.put ⟨1,d.core,d.addr,d.word,0⟩ (g.seen d)
 else if d.kind = 3 then { g.put ⟨2,d.core,d.addr,0,d.word⟩ (-1) with q:=g.q.set d.core.toNat (g.w d.core.toNat ++ [(g.ev.length:Int)]) }
 else if d.kind = 4 then (g.put ⟨3,d.core,d.addr,d.word,d.put⟩ (g.l d.addr.toNat)).came d.addr.toNat g.ev.length
 else if d.kind = 5 ∨ d.kind = 6 then g.put ⟨4,d.core,0,0,0⟩ (-1)
 else if d.kind = 8 then ({ g with q:=g.q.set d.core.toNat (g.w d.core.toNat).tail }).came d.addr.toNat ((g.w d.core.toNat).headD 0)
 else g
def Came (g:GS) (i:Nat):Prop:=(i:Int) ∈ g.a (g.e i).thing.toNat
def GS.src (g:GS) (i:Nat):Int:=if (g.e i).wr = true then (i:Int) else g.f i
def Lw (g:GS) (κ:Nat→Nat) (x y:Int):Prop:=x = -1 ∨ x = y ∨ (0 ≤ x∧0 ≤ y∧Came g x.toNat∧(Came g y.toNat→κ x.toNat < κ y.toNat)) ∨ (0 ≤ x∧0 ≤ y∧¬ Came g x.toNat∧¬ Came g y.toNat∧x < y)
structure GI (m nc:Nat) (F:List Int) (g:GS) (τ κ:Nat→Nat) (now:Nat):Prop where
 lf:g.frm.length = g.ev.length
 la:g.aft.length = m
 ll:g.last.length = m
 lq:g.q.length = nc
 ev:∀ i,i < g.ev.length→evOk m (g.e i) = true
 evc:∀ i,i < g.ev.length→(g.e i).thread < nc
 kd:∀ i,i < g.ev.length→1 ≤ (g.e i).kind
 q:∀ c,c < nc→∀ k ∈ g.w c,0 ≤ k∧k.toNat < g.ev.length∧(g.e k.toNat).wr = true∧(g.e k.toNat).thread = c
 qs:∀ c,c < nc→(g.w c).Pairwise (·< ·)
 aft:∀ t,t < m→∀ k ∈ g.a t,0 ≤ k∧k.toNat < g.ev.length∧(g.e k.toNat).wr = true∧(g.e k.toNat).thing = t
 srt:∀ t,t < m→(g.a t).Pairwise (fun j k => κ j.toNat < κ k.toNat)
 cov:∀ i,i < g.ev.length→(g.e i).wr = true→Came g i ∨ (i:Int) ∈ g.w (g.e i).thread.toNat
 dis:∀ i,i < g.ev.length→Came g i→(i:Int) ∉ g.w (g.e i).thread.toNat
 last:∀ t,t < m→g.l t = (g.a t).getLastD (-1)
 fr:∀ i,i < g.ev.length→((g.e i).rd = false∧g.f i = -1) ∨ ((g.e i).rd = true∧((g.f i = -1∧(g.e i).saw = F.getD (g.e i).thing.toNat 0) ∨ ∃ w:Nat,g.f i = w∧w < i∧(g.e w).wr = true∧(g.e w).thing = (g.e i).thing∧(g.e w).put = (g.e i).saw))
 t1:∀ i j,i < j→j < g.ev.length→τ i < τ j
 t2:∀ i,i < g.ev.length→τ i < now
 k1:∀ i,i < g.ev.length→Came g i→κ i < now∧((g.e i).kind = 2→τ i < κ i)∧((g.e i).kind = 3→τ i = κ i)
 p1:∀ i j,i < j→j < g.ev.length→(g.e i).thread = (g.e j).thread→(g.e i).kind = 2→(g.e j).kind = 3 ∨ (g.e j).kind = 4→Came g i∧κ i < τ j
 p2:∀ i j,i < j→j < g.ev.length→(g.e i).thread = (g.e j).thread→(g.e i).kind = 2→(g.e j).kind = 2→Came g j→Came g i∧κ i < κ j
 r1:∀ i,i < g.ev.length→(g.e i).rd = true→∀ w:Nat,g.f i = w→(Came g w∧κ w < τ i) ∨ ((g.e i).kind = 1∧(g.e w).thread = (g.e i).thread∧(Came g w→τ i < κ w))
 r2:∀ i,i < g.ev.length→(g.e i).rd = true→∀ b,b < g.ev.length→b ≠ i→(g.e b).thing = (g.e i).thing→Came g b→(g.f i = -1→τ i < κ b)∧∀ w:Nat,g.f i = w→b ≠ w→Came g w→κ b < κ w ∨ τ i < κ b
 co:∀ a b,a < b→b < g.ev.length→(g.e a).thread = (g.e b).thread→(g.e a).thing = (g.e b).thing→(g.e a).kind ≠ 4→(g.e b).kind ≠ 4→Lw g κ (g.src a) (g.src b)
theorem evOk_spec {n:Nat} {d:Deed} (h:evOk n d = true):d.kind ≠ 0∧d.kind < 5∧0 ≤ d.thread∧d.thread < 8∧(d.rd = true ∨ d.saw = 0)∧(d.wr = true ∨ d.put = 0)∧(d.kind = 4→d.thing = 0)∧(d.kind ≠ 4→0 ≤ d.thing∧d.thing < n):=by
 simp only [evOk,Bool.and_eq_true,decide_eq_true_eq] at h
 obtain ⟨⟨⟨⟨⟨⟨h1,h2⟩,h3⟩,h4⟩,h5⟩,h6⟩,h7⟩:=h
 refine ⟨h1,h2,h3,h4,h5,h6,fun hk => ?_,fun hk => ?_⟩
 ·rw [if_pos hk] at h7;simpa using h7
 ·rw [if_neg hk] at h7;simpa using h7
theorem evOk_mk {n:Nat} {d:Deed} (h1:d.kind ≠ 0) (h2:d.kind < 5) (h3:0 ≤ d.thread) (h4:d.thread < 8) (h5:d.rd = true ∨ d.saw = 0) (h6:d.wr = true ∨ d.put = 0) (h7:d.kind = 4→d.thing = 0) (h8:d.kind ≠ 4→0 ≤ d.thing∧d.thing < n):evOk n d = true:=by
 simp only [evOk,Bool.and_eq_true,decide_eq_true_eq]
 refine ⟨⟨⟨⟨⟨⟨h1,h2⟩,h3⟩,h4⟩,h5⟩,h6⟩,?_⟩
 by_cases hk:d.kind = 4
 ·rw [if_pos hk];simpa using h7 hk
 ·rw [if_neg hk];simpa using h8 hk
theorem wr_ne4 {d:Deed} (h:d.wr = true):d.kind ≠ 4:=by have:=wr_kind.1 h;omega
theorem rd_ne4 {d:Deed} (h:d.rd = true):d.kind ≠ 4:=by have:=rd_kind.1 h;omega
section
variable {m nc:Nat} {F:List Int} {g:GS} {τ κ:Nat→Nat} {now:Nat}
theorem GI.thing (h:GI m nc F g τ κ now) {i:Nat} (hi:i < g.ev.length) (hk:(g.e i).kind ≠ 4):0 ≤ (g.e i).thing∧(g.e i).thing < m∧(g.e i).thing.toNat < m:=by
 have:=(evOk_spec (h.ev i hi)).2.2.2.2.2.2.2 hk
 omega
theorem GI.thr (h:GI m nc F g τ κ now) {i:Nat} (hi:i < g.ev.length):0 ≤ (g.e i).thread∧(g.e i).thread.toNat < nc:=by
 have h1:=(evOk_spec (h.ev i hi)).2.2.1
 have h2:=h.evc i hi
 omega
theorem GI.inAft (h:GI m nc F g τ κ now) {t:Nat} (ht:t < m) {k:Int} (hk:k ∈ g.a t):Came g k.toNat:=by
 obtain ⟨h1,h2,h3,h4⟩:=h.aft t ht k hk
 unfold Came
 rw [h4,Int.toNat_natCast,Int.toNat_of_nonneg h1]
 exact hk
theorem GI.lastIn (h:GI m nc F g τ κ now) {t:Nat} (ht:t < m):(g.l t = -1∧g.a t = []) ∨ (0 ≤ g.l t∧g.l t ∈ g.a t∧∀ k ∈ g.a t,k ≠ g.l t→κ k.toNat < κ (g.l t).toNat):=by
 rw [h.last t ht]
 have hs:=h.srt t ht
 have hr:=h.aft t ht
 rcases List.eq_nil_or_concat (g.a t) with e|⟨l,x,e⟩
 ·rw [e];exact .inl ⟨rfl,rfl⟩
 ·rw [List.concat_eq_append] at e
  rw [e] at hs hr ⊢
  right
  have e2:(l ++ [x]).getLastD (-1) = x:=by simp [List.getLastD_eq_getLast?]
  rw [e2]
  refine ⟨(hr x (by simp)).1,by simp,fun k hk hne => ?_⟩
  rcases List.mem_append.1 hk with hk|hk
  ·exact (List.pairwise_append.1 hs).2.2 k hk x (by simp)
  ·simp only [List.mem_singleton] at hk;exact absurd hk hne
theorem GI.srcOk (h:GI m nc F g τ κ now) {a:Nat} (ha:a < g.ev.length) (hk:(g.e a).kind ≠ 4):g.src a = -1 ∨ (0 ≤ g.src a∧(g.src a).toNat ≤ a∧(g.e (g.src a).toNat).wr = true∧(g.e (g.src a).toNat).thing = (g.e a).thing∧(Came g (g.src a).toNat ∨ g.src a ∈ g.w (g.e a).thread.toNat)):=by
 unfold GS.src
 by_cases hw:(g.e a).wr = true
 ·rw [if_pos hw]
  right
  rw [Int.toNat_natCast]
  exact ⟨by omega,Nat.le_refl _,hw,rfl,h.cov a ha hw⟩
 ·rw [if_neg hw]
  have hr:(g.e a).rd = true:=by
   have h1:=evOk_spec (h.ev a ha)
   have h2:=h.kd a ha
   have h0:¬ ((g.e a).kind = 2 ∨ (g.e a).kind = 3):=fun h => hw (wr_kind.2 h)
   exact rd_kind.2 (by omega)
  rcases h.fr a ha with ⟨h1,_⟩|⟨_,h1⟩
  ·rw [hr] at h1;cases h1
  rcases h1 with ⟨h1,_⟩|⟨w,h1,h2,h3,h4,h5⟩
  ·exact .inl h1
  right
  rw [h1,Int.toNat_natCast]
  refine ⟨by omega,by omega,h3,h4,?_⟩
  rcases h.r1 a ha hr w h1 with ⟨h6,_⟩|⟨_,h6,_⟩
  ·exact .inl h6
  ·rw [← h6];exact h.cov w (by omega) h3
def GS.add (g:GS) (d:Deed) (f:Int):GS:={ g.put d f with q:=if d.wr = true then g.q.set d.thread.toNat (g.w d.thread.toNat ++ [(g.ev.length:Int)]) else g.q }
structure PutOk (m nc:Nat) (F:List Int) (g:GS) (d:Deed) (f:Int):Prop where
 ev:evOk m d = true
 kd:1 ≤ d.kind
 thr:d.thread < nc
 wait:d.kind = 3 ∨ d.kind = 4→g.w d.thread.toNat = []
 nrd:d.rd = false→f = -1
 rd:d.rd = true→(d.kind = 1∧∃ w:Nat,f = w∧(w:Int) ∈ g.w d.thread.toNat∧(g.e w).thing = d.thing∧(g.e w).put = d.saw∧∀ k ∈ g.w d.thread.toNat,(g.e k.toNat).thing = d.thing→k ≤ w) ∨
  (f = g.l d.thing.toNat∧(∀ k ∈ g.w d.thread.toNat,(g.e k.toNat).thing ≠ d.thing)∧d.saw = if f = -1 then F.getD d.thing.toNat 0 else (g.e f.toNat).put)
theorem add_e {d:Deed} {f:Int} {i:Nat} (hi:i < g.ev.length):(g.add d f).e i = g.e i:=gD_app _ hi
theorem add_n {d:Deed} {f:Int}:(g.add d f).e g.ev.length = d:=gD_end _ _ _
theorem add_len {d:Deed} {f:Int}:(g.add d f).ev.length = g.ev.length + 1:=by simp [GS.add,GS.put]
theorem add_w {d:Deed} {f:Int} {c:Nat} (hq:d.thread.toNat < g.q.length):(g.add d f).w c = if d.wr = true∧c = d.thread.toNat then g.w c ++ [(g.ev.length:Int)] else g.w c:=by
 unfold GS.add GS.w
 dsimp only
 by_cases hw:d.wr = true
 ·rw [if_pos hw,gD_set hq]
  by_cases hc:c = d.thread.toNat
  ·rw [if_pos hc,if_pos ⟨hw,hc⟩,hc]
  ·rw [if_neg hc,if_neg (fun h => hc h.2)]
 ·rw [if_neg hw,if_neg (fun h => hw h.1)]
theorem add_came (h:GI m nc F g τ κ now) {d:Deed} {f:Int} {i:Nat} (hi:i < g.ev.length):Came (g.add d f) i ↔ Came g i:=by
 unfold Came;rw [add_e hi];exact Iff.rfl
theorem add_new (h:GI m nc F g τ κ now) {d:Deed} {f:Int} (hd:evOk m d = true) (hk:1 ≤ d.kind):¬ Came (g.add d f) g.ev.length:=by
 unfold Came
 rw [add_n]
 intro hm
 have hm:((g.ev.length:Nat):Int) ∈ g.a d.thing.toNat:=hm
 by_cases ht:d.thing.toNat < m
 ·have:=(h.aft _ ht _ hm).2.1
  omega
 ·have e:g.a d.thing.toNat = []:=by
   show g.aft.getD _ _ = _
   rw [List.getD,List.getElem?_eq_none (by rw [h.la];omega)];rfl
  rw [e] at hm;cases hm
theorem Lw.to {g g':GS} {κ κ':Nat→Nat} {x y:Int} (h:Lw g κ x y) (hx:0 ≤ x→(Came g' x.toNat ↔ Came g x.toNat)∧κ' x.toNat = κ x.toNat) (hy:0 ≤ y→(Came g' y.toNat ↔ Came g y.toNat)∧κ' y.toNat = κ y.toNat):Lw g' κ' x y:=by
 rcases h with h|h|⟨h1,h2,h3,h4⟩|⟨h1,h2,h3,h4,h5⟩
 ·exact .inl h
 ·exact .inr (.inl h)
 ·obtain ⟨a1,a2⟩:=hx h1
  obtain ⟨b1,b2⟩:=hy h2
  exact .inr (.inr (.inl ⟨h1,h2,a1.2 h3,fun hc => by rw [a2,b2];exact h4 (b1.1 hc)⟩))
 ·exact .inr (.inr (.inr ⟨h1,h2,fun hc => h3 ((hx h1).1.1 hc),fun hc => h4 ((hy h2).1.1 hc),h5⟩))
theorem GI.add (h:GI m nc F g τ κ now) {d:Deed} {f:Int} (p:PutOk m nc F g d f):GI m nc F (g.add d f) (fun i => if i = g.ev.length then now else τ i) κ (now + 1):=by
 have sp:=evOk_spec p.ev
 have hthr:0 ≤ d.thread∧d.thread.toNat < nc:=by have:=p.thr;omega
 have hq:d.thread.toNat < g.q.length:=by rw [h.lq];exact hthr.2
 have hw:∀ c,(g.add d f).w c = if d.wr = true∧c = d.thread.toNat then g.w c ++ [(g.ev.length:Int)] else g.w c:=fun c => add_w hq
 have hfe:∀ i,i < g.ev.length→(g.add d f).f i = g.f i:=fun i hi => gD_app _ (by rw [h.lf];exact hi)
 have hfn:(g.add d f).f g.ev.length = f:=by
  show (g.frm ++ [f]).getD _ _ = _
  rw [← h.lf];exact gD_end _ _ _
 have hE:∀ i,i < g.ev.length→(g.add d f).e i = g.e i:=fun i hi => add_e hi
 have hN:(g.add d f).e g.ev.length = d:=add_n
 have hC:∀ i,i < g.ev.length→(Came (g.add d f) i ↔ Came g i):=fun i hi => add_came h hi
 have hCN:¬ Came (g.add d f) g.ev.length:=add_new h p.ev p.kd
 have hL:=@add_len g d f
 have ha:∀ t,(g.add d f).a t = g.a t:=fun t => rfl
 have hsrc:∀ i,i < g.ev.length→(g.add d f).src i = g.src i:=fun i hi => by unfold GS.src;rw [hE i hi,hfe i hi]
 have hwm:∀ c k,k ∈ g.w c→k ∈ (g.add d f).w c:=fun c k hk => by
  rw [hw];split
  ·exact List.mem_append_left _ hk
  ·exact hk
 have hwlt:∀ c,c < nc→∀ k ∈ g.w c,k.toNat < g.ev.length:=fun c hc k hk => (h.q c hc k hk).2.1
 have hdth:d.rd = true→d.thing.toNat < m:=fun hr => by
  have:=sp.2.2.2.2.2.2.2 (rd_ne4 hr);omega
 refine ⟨by show (g.frm ++ [f]).length = (g.ev ++ [d]).length;simp [h.lf],h.la,h.ll,?_,?_,?_,?_,?_,?_,?_,?_,?_,?_,h.last,?_,?_,?_,?_,?_,?_,?_,?_,?_⟩
 ·show (if d.wr = true then _ else g.q).length = nc
  split
  ·rw [List.length_set,h.lq]
  ·exact h.lq
 ·intro i hi
  rw [hL] at hi
  by_cases hin:i = g.ev.length
  ·subst hin;rw [hN];exact p.ev
  ·rw [hE i (by omega)];exact h.ev i (by omega)
 ·intro i hi
  rw [hL] at hi
  by_cases hin:i = g.ev.length
  ·subst hin;rw [hN];exact p.thr
  ·rw [hE i (by omega)];exact h.evc i (by omega)
 ·intro i hi
  rw [hL] at hi
  by_cases hin:i = g.ev.length
  ·subst hin;rw [hN];exact p.kd
  ·rw [hE i (by omega)];exact h.kd i (by omega)
 ·intro c hc k hk
  have hold:k ∈ g.w c→0 ≤ k∧k.toNat < (g.add d f).ev.length∧((g.add d f).e k.toNat).wr = true∧((g.add d f).e k.toNat).thread = c:=fun hk => by
   obtain ⟨h1,h2,h3,h4⟩:=h.q c hc k hk
   rw [hE _ h2,hL]
   exact ⟨h1,by omega,h3,h4⟩
  rw [hw] at hk
  split at hk
  ·rename_i hwc
   rcases List.mem_append.1 hk with hk|hk
   ·exact hold hk
   ·simp only [List.mem_singleton] at hk
    subst hk
    rw [Int.toNat_natCast,hN,hL]
    exact ⟨by omega,by omega,hwc.1,by omega⟩
  ·exact hold hk
 ·intro c hc
  rw [hw]
  split
  ·refine List.pairwise_append.2 ⟨h.qs c hc,List.pairwise_singleton _ _,fun a ha b hb => ?_⟩
   simp only [List.mem_singleton] at hb
   have:=h.q c hc a ha
   omega
  ·exact h.qs c hc
 ·intro t ht k hk
  obtain ⟨h1,h2,h3,h4⟩:=h.aft t ht k hk
  rw [hE _ h2,hL]
  exact ⟨h1,by omega,h3,h4⟩
 ·exact h.srt
 ·intro i hi hwr
  rw [hL] at hi
  by_cases hin:i = g.ev.length
  ·subst hin
   rw [hN] at hwr ⊢
   right
   rw [hw,if_pos ⟨hwr,rfl⟩];simp
  ·rw [hE i (by omega)] at hwr ⊢
   rcases h.cov i (by omega) hwr with h1|h1
   ·exact .inl ((hC i (by omega)).2 h1)
   ·exact .inr (hwm _ _ h1)
 ·intro i hi hc hm
  rw [hL] at hi
  by_cases hin:i = g.ev.length
  ·subst hin;exact hCN hc
  ·rw [hC i (by omega)] at hc
   rw [hE i (by omega),hw] at hm
   have:=h.dis i (by omega) hc
   split at hm
   ·rcases List.mem_append.1 hm with hm|hm
    ·exact this hm
    ·simp only [List.mem_singleton] at hm;omega
   ·exact this hm
 ·intro i hi
  rw [hL] at hi
  by_cases hin:i = g.ev.length
  ·subst hin
   rw [hN,hfn]
   cases hr:d.rd with
   | false => exact .inl ⟨rfl,p.nrd hr⟩
   | true =>
    refine .inr ⟨rfl,?_⟩
    rcases p.rd hr with ⟨_,w,h1,h2,h3,h4,_⟩|⟨h1,h2,h3⟩
    ·obtain ⟨a1,a2,a3,a4⟩:=h.q _ hthr.2 _ h2
     rw [Int.toNat_natCast] at a2 a3
     exact .inr ⟨w,h1,a2,by rw [hE w a2];exact a3,by rw [hE w a2];exact h3,by rw [hE w a2];exact h4⟩
    ·rcases h.lastIn (hdth hr) with ⟨b1,b2⟩|⟨b1,b2,b3⟩
     ·rw [← h1] at b1
      rw [if_pos b1] at h3
      exact .inl ⟨b1,h3⟩
     ·rw [← h1] at b1 b2
      obtain ⟨a1,a2,a3,a4⟩:=h.aft _ (hdth hr) _ b2
      rw [if_neg (by omega)] at h3
      refine .inr ⟨f.toNat,(Int.toNat_of_nonneg a1).symm,a2,by rw [hE _ a2];exact a3,?_,by rw [hE _ a2];exact h3.symm⟩
      rw [hE _ a2,a4]
      have:=sp.2.2.2.2.2.2.2 (rd_ne4 hr)
      omega
  ·rw [hE i (by omega),hfe i (by omega)]
   rcases h.fr i (by omega) with h1|⟨h1,h2⟩
   ·exact .inl h1
   ·refine .inr ⟨h1,?_⟩
    rcases h2 with h2|⟨w,a1,a2,a3⟩
    ·exact .inl h2
    ·exact .inr ⟨w,a1,a2,by rw [hE w (by omega)];exact a3⟩
 ·intro i j hij hj
  rw [hL] at hj
  try dsimp only
  rw [if_neg (by omega)]
  split
  ·exact h.t2 i (by omega)
  ·exact h.t1 i j hij (by omega)
 ·intro i hi
  rw [hL] at hi
  try dsimp only
  split
  ·omega
  ·have:=h.t2 i (by omega);omega
 ·intro i hi hc
  rw [hL] at hi
  by_cases hin:i = g.ev.length
  ·subst hin;exact absurd hc hCN
  ·rw [hC i (by omega)] at hc
   rw [hE i (by omega)]
   try dsimp only
   rw [if_neg hin]
   have:=h.k1 i (by omega) hc
   exact ⟨by omega,this.2⟩
 ·intro i j hij hj ht h2 h34
  rw [hL] at hj
  rw [hE i (by omega)] at ht h2
  rw [hC i (by omega)]
  try dsimp only
  by_cases hjn:j = g.ev.length
  ·subst hjn
   rw [hN] at ht h34
   rw [if_pos rfl]
   have he:=p.wait h34
   have hci:Came g i:=by
    rcases h.cov i (by omega) (wr_kind.2 (.inl h2)) with h1|h1
    ·exact h1
    ·rw [ht,he] at h1;cases h1
   exact ⟨hci,(h.k1 i (by omega) hci).1⟩
  ·rw [hE j (by omega)] at ht h34
   rw [if_neg hjn]
   exact h.p1 i j hij (by omega) ht h2 h34
 ·intro i j hij hj ht h2 h2' hc
  rw [hL] at hj
  by_cases hjn:j = g.ev.length
  ·subst hjn;exact absurd hc hCN
  ·rw [hE i (by omega)] at ht h2
   rw [hE j (by omega)] at ht h2'
   rw [hC i (by omega)]
   rw [hC j (by omega)] at hc
   exact h.p2 i j hij (by omega) ht h2 h2' hc
 ·intro i hi hr w hw'
  rw [hL] at hi
  try dsimp only
  by_cases hin:i = g.ev.length
  ·subst hin
   rw [hN] at hr ⊢
   rw [hfn] at hw'
   rw [if_pos rfl]
   rcases p.rd hr with ⟨h0,w',h1,h2,h3,h4,_⟩|⟨h1,h2,h3⟩
   ·have:w' = w:=by omega
    subst this
    obtain ⟨a1,a2,a3,a4⟩:=h.q _ hthr.2 _ h2
    rw [Int.toNat_natCast] at a2 a3 a4
    right
    rw [hE _ a2]
    refine ⟨h0,by omega,fun hc => ?_⟩
    rw [hC _ a2] at hc
    have:=h.dis _ a2 hc
    rw [a4,Int.toNat_natCast] at this
    exact absurd h2 this
   ·rcases h.lastIn (hdth hr) with ⟨b1,b2⟩|⟨b1,b2,b3⟩
    ·omega
    ·left
     rw [← h1,hw'] at b2
     have hc:=h.inAft (hdth hr) b2
     rw [Int.toNat_natCast] at hc
     have a2:=(h.aft _ (hdth hr) _ b2).2.1
     rw [Int.toNat_natCast] at a2
     exact ⟨(hC w a2).2 hc,(h.k1 w a2 hc).1⟩
  ·rw [hE i (by omega)] at hr ⊢
   rw [hfe i (by omega)] at hw'
   rw [if_neg hin]
   have hwi:w < i:=by
    rcases h.fr i (by omega) with ⟨h1,h2⟩|⟨h1,h2|⟨w2,h2,h3,_⟩⟩ <;> omega
   rw [hC w (by omega),hE w (by omega)]
   exact h.r1 i (by omega) hr w hw'
 ·intro i hi hr b hb hbi hth hc
  rw [hL] at hi hb
  try dsimp only
  by_cases hbn:b = g.ev.length
  ·subst hbn;exact absurd hc hCN
  have hb:b < g.ev.length:=by omega
  rw [hE b hb] at hth
  rw [hC b hb] at hc
  by_cases hin:i = g.ev.length
  ·subst hin
   rw [hN] at hr hth
   rw [hfn,if_pos rfl]
   have hbm:(b:Int) ∈ g.a d.thing.toNat:=by rw [← hth];exact hc
   rcases p.rd hr with ⟨h0,w',h1,h2,h3,h4,_⟩|⟨h1,h2,h3⟩
   ·refine ⟨fun he => by omega,fun w hw' hbw hcw => ?_⟩
    have:w' = w:=by omega
    subst this
    obtain ⟨a1,a2,a3,a4⟩:=h.q _ hthr.2 _ h2
    rw [Int.toNat_natCast] at a2 a3 a4
    rw [hC _ a2] at hcw
    have:=h.dis _ a2 hcw
    rw [a4,Int.toNat_natCast] at this
    exact absurd h2 this
   ·rcases h.lastIn (hdth hr) with ⟨b1,b2⟩|⟨b1,b2,b3⟩
    ·rw [b2] at hbm;cases hbm
    ·refine ⟨fun he => by omega,fun w hw' hbw hcw => .inl ?_⟩
     have:=b3 b hbm (by omega)
     rw [← h1,hw',Int.toNat_natCast,Int.toNat_natCast] at this
     exact this
  ·rw [hE i (by omega)] at hr hth
   rw [hfe i (by omega),if_neg hin]
   obtain ⟨c1,c2⟩:=h.r2 i (by omega) hr b hb hbi hth hc
   refine ⟨c1,fun w hw' hbw hcw => c2 w hw' hbw ?_⟩
   have hwi:w < i:=by
    rcases h.fr i (by omega) with ⟨h1,h2⟩|⟨h1,h2|⟨w2,h2,h3,_⟩⟩ <;> omega
   exact (hC w (by omega)).1 hcw
 ·intro a b hab hb ht hth hka hkb
  rw [hL] at hb
  have ha2:a < g.ev.length:=by omega
  rw [hE a ha2] at ht hth hka
  rw [hsrc a ha2]
  have hsa:=h.srcOk ha2 hka
  by_cases hbn:b = g.ev.length
  ·subst hbn
   rw [hN] at ht hth hkb
   have hthd:=sp.2.2.2.2.2.2.2 hkb
   rcases hsa with h1|⟨s0,s1,s2,s3,s4⟩
   ·exact .inl h1
   have s5:(g.src a).toNat < g.ev.length:=by omega
   by_cases hwr:d.wr = true
   ·have e:(g.add d f).src g.ev.length = (g.ev.length:Int):=by unfold GS.src;rw [hN,if_pos hwr]
    rw [e]
    rcases s4 with s4|s4
    ·exact .inr (.inr (.inl ⟨s0,by omega,(hC _ s5).2 s4,fun hc => by rw [Int.toNat_natCast] at hc;exact absurd hc hCN⟩))
    ·refine .inr (.inr (.inr ⟨s0,by omega,fun hc => ?_,fun hc => by rw [Int.toNat_natCast] at hc;exact absurd hc hCN,by omega⟩))
     rw [hC _ s5] at hc
     have:=h.dis _ s5 hc
     obtain ⟨_,_,_,q4⟩:=h.q _ (h.thr ha2).2 _ s4
     rw [q4,Int.toNat_of_nonneg s0,Int.toNat_natCast] at this
     exact this s4
   ·have hr:d.rd = true:=by
     have h0:¬ (d.kind = 2 ∨ d.kind = 3):=fun h => hwr (wr_kind.2 h)
     have:=p.kd
     exact rd_kind.2 (by omega)
    have e:(g.add d f).src g.ev.length = f:=by unfold GS.src;rw [hN,if_neg hwr,hfn]
    rw [e]
    rcases p.rd hr with ⟨h0,w',h1,h2,h3,h4,h5⟩|⟨h1,h2,h3⟩
    ·obtain ⟨a1,a2,a3,a4⟩:=h.q _ hthr.2 _ h2
     rw [Int.toNat_natCast] at a2 a3 a4
     have hnc:¬ Came g w':=fun hc => by
      have:=h.dis _ a2 hc
      rw [a4,Int.toNat_natCast] at this
      exact this h2
     have hnc2:¬ Came (g.add d f) f.toNat:=fun hc => by
      have e1:f.toNat = w':=by omega
      rw [e1] at hc
      exact hnc ((hC _ a2).1 hc)
     rcases s4 with s4|s4
     ·exact .inr (.inr (.inl ⟨s0,by omega,(hC _ s5).2 s4,fun hc => absurd hc hnc2⟩))
     ·rw [ht] at s4
      have h6:=h5 _ s4 (by rw [s3,hth])
      by_cases heq:g.src a = f
      ·exact .inr (.inl heq)
      ·refine .inr (.inr (.inr ⟨s0,by omega,fun hc => ?_,hnc2,by omega⟩))
       rw [hC _ s5] at hc
       have:=h.dis _ s5 hc
       obtain ⟨_,_,_,q4⟩:=h.q _ hthr.2 _ s4
       rw [q4,Int.toNat_of_nonneg s0,Int.toNat_natCast] at this
       exact this s4
    ·rcases s4 with s4|s4
     ·have hsm:g.src a ∈ g.a d.thing.toNat:=by
       have:((g.src a).toNat:Int) ∈ g.a (g.e (g.src a).toNat).thing.toNat:=s4
       rw [s3,hth,Int.toNat_of_nonneg s0] at this
       exact this
      rcases h.lastIn (hdth hr) with ⟨b1,b2⟩|⟨b1,b2,b3⟩
      ·rw [b2] at hsm;cases hsm
      ·rw [← h1] at b1 b2 b3
       by_cases heq:g.src a = f
       ·exact .inr (.inl heq)
       ·refine .inr (.inr (.inl ⟨s0,b1,(hC _ s5).2 s4,fun _ => b3 _ hsm heq⟩))
     ·rw [ht] at s4
      exact absurd (by rw [s3,hth]) (h2 _ s4)
  ·have hb2:b < g.ev.length:=by omega
   rw [hE b hb2] at ht hth hkb
   rw [hsrc b hb2]
   refine (h.co a b hab hb2 ht hth hka hkb).to (fun hx => ⟨hC _ ?_,rfl⟩) (fun hy => ⟨hC _ ?_,rfl⟩)
   ·rcases hsa with h1|⟨_,s1,_⟩ <;> omega
   ·rcases h.srcOk hb2 hkb with h1|⟨_,s1,_⟩ <;> omega
end
end Go.Proofs.YtflicfkgbjmffaaGreat
end
section
/- A writer comes to memory; a step as a whole. -/
namespace Go.Proofs.YtflicfkgbjmffaaGreat
open Go Go.Abs Go.Proofs V
set_option linter.unusedSimpArgs false
set_option linter.unusedVariables false
section
variable {m nc:Nat} {F:List Int} {g:GS} {τ κ:Nat→Nat} {now:Nat}
def GS.pop (g:GS) (c t:Nat) (k:Int):GS:=({ g with q:=g.q.set c (g.w c).tail }).came t k
theorem GI.pop (h:GI m nc F g τ κ now) {c:Nat} (hc:c < nc) {k:Nat} {r:List Int} (hk:g.w c = (k:Int) :: r) {T now':Nat}
  (hT1:∀ i,i < g.ev.length→Came g i→κ i < T) (hT2:∀ i,i < g.ev.length→i ≠ k→τ i < T) (h2:(g.e k).kind = 2→τ k < T) (h3:(g.e k).kind = 3→τ k = T) (hn:now ≤ now') (hn2:T < now') :
  GI m nc F (g.pop c (g.e k).thing.toNat k) τ (fun i => if i = k then T else κ i) now'∧∀ i,Came (g.pop c (g.e k).thing.toNat k) i ↔ Came g i ∨ i = k:=by
 obtain ⟨_,kn,kw,kt⟩:=h.q c hc k (by rw [hk];simp)
 rw [Int.toNat_natCast] at kn kw kt
 have hth:=h.thing kn (wr_ne4 kw)
 have hs:=h.qs c hc
 rw [hk,List.pairwise_cons] at hs
 have hnk:¬ Came g k:=fun hm => by
  have:=h.dis k kn hm
  rw [kt,Int.toNat_natCast,hk] at this
  simp at this
 have ha:∀ x,(g.pop c (g.e k).thing.toNat k).a x = if x = (g.e k).thing.toNat then g.a x ++ [(k:Int)] else g.a x:=fun x => by
  show (g.aft.set _ _).getD x [] = _
  rw [gD_set (by rw [h.la];exact hth.2.2)]
  split
  ·rename_i hx;rw [hx]
  ·rfl
 have hl:∀ x,(g.pop c (g.e k).thing.toNat k).l x = if x = (g.e k).thing.toNat then (k:Int) else g.l x:=fun x => by
  show (g.last.set _ _).getD x 0 = _
  rw [gD_set (by rw [h.ll];exact hth.2.2)]
 have hw:∀ x,(g.pop c (g.e k).thing.toNat k).w x = if x = c then r else g.w x:=fun x => by
  show (g.q.set c (g.w c).tail).getD x [] = _
  rw [gD_set (by rw [h.lq];exact hc),hk,List.tail_cons]
 have hC:∀ i,Came (g.pop c (g.e k).thing.toNat k) i ↔ Came g i ∨ i = k:=fun i => by
  show (i:Int) ∈ (g.pop c (g.e k).thing.toNat k).a (g.e i).thing.toNat ↔ _
  rw [ha]
  split
  ·rw [List.mem_append,List.mem_singleton]
   exact ⟨fun hx => hx.imp id (fun hx => by omega),fun hx => hx.imp id (fun hx => by omega)⟩
  ·rename_i hne
   exact ⟨.inl,fun hx => hx.elim id (fun hx => absurd (by rw [hx]) hne)⟩
 have hne:∀ i,Came g i→i ≠ k:=fun i hm he => hnk (he ▸ hm)
 have hwm:∀ x y,y ∈ (g.pop c (g.e k).thing.toNat k).w x→y ∈ g.w x:=fun x y hy => by
  rw [hw] at hy
  split at hy
  ·rename_i hx;rw [hx,hk];exact List.mem_cons_of_mem _ hy
  ·exact hy
 refine ⟨⟨h.lf,?_,?_,?_,h.ev,h.evc,h.kd,?_,?_,?_,?_,?_,?_,?_,h.fr,h.t1,fun i hi => Nat.lt_of_lt_of_le (h.t2 i hi) hn,?_,?_,?_,?_,?_,?_⟩,hC⟩
 ·show (g.aft.set _ _).length = m;rw [List.length_set];exact h.la
 ·show (g.last.set _ _).length = m;rw [List.length_set];exact h.ll
 ·show (g.q.set _ _).length = nc;rw [List.length_set];exact h.lq
 ·intro x hx y hy;exact h.q x hx y (hwm x y hy)
 ·intro x hx
  rw [hw]
  split
  ·exact hs.2
  ·exact h.qs x hx
 ·intro t ht y hy
  rw [ha] at hy
  split at hy
  ·rename_i htk
   rcases List.mem_append.1 hy with hy|hy
   ·exact h.aft t ht y hy
   ·simp only [List.mem_singleton] at hy
    subst hy
    rw [Int.toNat_natCast]
    exact ⟨by omega,kn,kw,by show (g.e k).thing = _;omega⟩
  ·exact h.aft t ht y hy
 ·intro t ht
  have hold:(g.a t).Pairwise fun j l => (if j.toNat = k then T else κ j.toNat) < (if l.toNat = k then T else κ l.toNat):=(h.srt t ht).imp_of_mem fun {j l} hj hl hjl => by
   rw [if_neg (hne _ (h.inAft ht hj)),if_neg (hne _ (h.inAft ht hl))];exact hjl
  rw [ha]
  split
  ·refine List.pairwise_append.2 ⟨hold,List.pairwise_singleton _ _,fun j hj l hl => ?_⟩
   simp only [List.mem_singleton] at hl
   subst hl
   try dsimp only
   rw [if_neg (hne _ (h.inAft ht hj)),Int.toNat_natCast,if_pos rfl]
   exact hT1 _ (h.aft t ht j hj).2.1 (h.inAft ht hj)
  ·exact hold
 ·intro i hi hwr
  rw [hC]
  rcases h.cov i hi hwr with h1|h1
  ·exact .inl (.inl h1)
  ·by_cases hik:i = k
   ·exact .inl (.inr hik)
   ·right
    show (i:Int) ∈ (g.pop c (g.e k).thing.toNat k).w (g.e i).thread.toNat
    rw [hw]
    have h1:(i:Int) ∈ g.w (g.e i).thread.toNat:=h1
    split
    ·rename_i hcc
     rw [hcc,hk] at h1
     rcases List.mem_cons.1 h1 with h1|h1
     ·omega
     ·exact h1
    ·exact h1
 ·intro i hi hm hmw
  rw [hC] at hm
  have hmw:(i:Int) ∈ (g.pop c (g.e k).thing.toNat k).w (g.e i).thread.toNat:=hmw
  rcases hm with hm|rfl
  ·exact h.dis i hi hm (hwm _ _ hmw)
  ·rw [hw,if_pos (by omega)] at hmw
   have:=hs.1 _ hmw
   omega
 ·intro t ht
  rw [hl,ha]
  split
  ·simp [List.getLastD_eq_getLast?]
  ·exact h.last t ht
 ·intro i hi hm
  rw [hC] at hm
  try dsimp only
  by_cases hik:i = k
  ·subst hik
   rw [if_pos rfl]
   exact ⟨hn2,h2,h3⟩
  ·rw [if_neg hik]
   have:=h.k1 i hi (hm.resolve_right hik)
   exact ⟨by omega,this.2⟩
 ·intro i j hij hj ht a2 a3
  obtain ⟨b1,b2⟩:=h.p1 i j hij hj ht a2 a3
  try dsimp only
  rw [hC,if_neg (hne i b1)]
  exact ⟨.inl b1,b2⟩
 ·intro i j hij hj ht a2 a3 hm
  rw [hC] at hm
  rw [hC]
  try dsimp only
  have ht:(g.e i).thread = (g.e j).thread:=ht
  by_cases hjk:j = k
  ·subst hjk
   rw [if_neg (by omega),if_pos rfl]
   have hci:Came g i:=by
    rcases h.cov i (by omega) (wr_kind.2 (.inl a2)) with h1|h1
    ·exact h1
    ·exfalso
     rw [show (g.e i).thread = (g.e j).thread from ht,kt,Int.toNat_natCast,hk] at h1
     rcases List.mem_cons.1 h1 with h1|h1
     ·omega
     ·have:=hs.1 _ h1;omega
   exact ⟨.inl hci,hT1 i (by omega) hci⟩
  ·obtain ⟨b1,b2⟩:=h.p2 i j hij hj ht a2 a3 (hm.resolve_right hjk)
   rw [if_neg (hne i b1),if_neg hjk]
   exact ⟨.inl b1,b2⟩
 ·intro i hi hr w hfw
  have hwi:w < i:=by
   rcases h.fr i hi with ⟨b1,b2⟩|⟨b1,b2|⟨w2,b2,b3,_⟩⟩
   ·have:g.f i = w:=hfw;omega
   ·have:g.f i = w:=hfw;omega
   ·have:g.f i = w:=hfw;omega
  try dsimp only
  rw [hC]
  rcases h.r1 i hi hr w hfw with ⟨b1,b2⟩|⟨b1,b2,b3⟩
  ·rw [if_neg (hne w b1)]
   exact .inl ⟨.inl b1,b2⟩
  ·refine .inr ⟨b1,b2,fun hm => ?_⟩
   by_cases hwk:w = k
   ·rw [if_pos hwk];exact hT2 i hi (by omega)
   ·rw [if_neg hwk];exact b3 (hm.resolve_right hwk)
 ·intro i hi hr b hb hbi hthb hm
  rw [hC] at hm
  try dsimp only
  by_cases hbk:b = k
  ·rw [if_pos hbk]
   have:=hT2 i hi (by omega)
   exact ⟨fun _ => this,fun _ _ _ _ => .inr this⟩
  ·rw [if_neg hbk]
   have hcb:=hm.resolve_right hbk
   obtain ⟨c1,c2⟩:=h.r2 i hi hr b hb hbi hthb hcb
   refine ⟨c1,fun w hfw hbw hcw => ?_⟩
   rw [hC] at hcw
   by_cases hwk:w = k
   ·rw [if_pos hwk];exact .inl (hT1 b hb hcb)
   ·rw [if_neg hwk];exact c2 w hfw hbw (hcw.resolve_right hwk)
 ·intro a b hab hb hat hath hka hkb
  have hb:b < g.ev.length:=hb
  have hsa:=h.srcOk (by omega:a < g.ev.length) hka
  have hsb:=h.srcOk hb hkb
  have hold:=h.co a b hab hb hat hath hka hkb
  have hat:(g.e a).thread = (g.e b).thread:=hat
  show Lw _ _ (g.src a) (g.src b)
  generalize g.src a = x at *
  generalize g.src b = y at *
  unfold Lw
  simp only [hC]
  rcases hold with h1|h1|⟨x0,y0,cx,cy⟩|⟨x0,y0,cx,cy,hxy⟩
  ·exact .inl h1
  ·exact .inr (.inl h1)
  ·refine .inr (.inr (.inl ⟨x0,y0,.inl cx,fun hm => ?_⟩))
   rw [if_neg (hne _ cx)]
   by_cases hyk:y.toNat = k
   ·rw [if_pos hyk]
    exact hT1 _ (by rcases hsa with h1|⟨_,h1,_⟩ <;> omega) cx
   ·rw [if_neg hyk];exact cy (hm.resolve_right hyk)
  ·by_cases hxk:x.toNat = k
   ·refine .inr (.inr (.inl ⟨x0,y0,.inr hxk,fun hm => ?_⟩))
    rcases hm with hm|hm
    ·exact absurd hm cy
    ·omega
   by_cases hyk:y.toNat = k
   ·exfalso
    rcases hsa with h1|⟨_,_,_,_,h1⟩
    ·omega
    rcases hsb with h1'|⟨_,_,_,_,h1'⟩
    ·omega
    have hx:=h1.resolve_left cx
    have hy:=h1'.resolve_left cy
    have hq:=(h.q _ (h.thr hb).2 _ hy).2.2.2
    have e:(g.e b).thread.toNat = c:=by
     rw [hyk] at hq;omega
    rw [hat,e,hk] at hx
    rcases List.mem_cons.1 hx with hx|hx
    ·omega
    ·have:=hs.1 _ hx;omega
   ·exact .inr (.inr (.inr ⟨x0,y0,fun hm => hm.elim cx hxk,fun hm => hm.elim cy hyk,hxy⟩))
theorem GI.later (h:GI m nc F g τ κ now) {now':Nat} (hn:now ≤ now'):GI m nc F g τ κ now' :=
 { h with t2:=fun i hi => Nat.lt_of_lt_of_le (h.t2 i hi) hn,k1:=fun i hi hc => ⟨Nat.lt_of_lt_of_le (h.k1 i hi hc).1 hn,(h.k1 i hi hc).2⟩ }
theorem GI.aLen (h:GI m nc F g τ κ now) {t:Nat} (ht:t < m):(g.a t).length ≤ g.ev.length :=
 nodup_lt ((h.srt t ht).imp fun hab e => by rw [e] at hab;omega) fun k hk => by have:=h.aft t ht k hk;omega
structure ML (m nc:Nat) (F:List Int) (s:Mach) (g:GS):Prop where
 nm:s.mem.length = m
 nco:s.cores.length = nc
 buf:∀ c,c < nc→(s.core c).buf.map (fun x => (x.addr,x.word)) = (g.w c).map (fun k => ((g.e k.toNat).thing,(g.e k.toNat).put))
 mem:∀ t,t < m→s.mem.getD t 0 = if g.l t = -1 then F.getD t 0 else (g.e (g.l t).toNat).put
 k2:∀ c,c < nc→∀ k ∈ g.w c,(g.e k.toNat).kind = 2
theorem seen_own (ev:List Deed) (a:Int):∀ (buf:List StoreS) (w:List Int) (v:Int) (b:Bool) (k0:Int),buf.map (fun x => (x.addr,x.word)) = w.map (fun k => ((ev.getD k.toNat default).thing,(ev.getD k.toNat default).put)) →
  (seenF a buf (v,b) = (v,b)∧ownL ev a w k0 = k0∧∀ k ∈ w,(ev.getD k.toNat default).thing ≠ a) ∨
  ∃ k ∈ w,seenF a buf (v,b) = ((ev.getD k.toNat default).put,true)∧ownL ev a w k0 = k∧(ev.getD k.toNat default).thing = a∧(w.Pairwise (·< ·)→∀ k' ∈ w,(ev.getD k'.toNat default).thing = a→k' ≤ k)
 | [],[],v,b,k0,_ => .inl ⟨rfl,rfl,fun _ h => by cases h⟩
 | [],_ :: _,v,b,k0,h => by simp at h
 | _ :: _,[],v,b,k0,h => by simp at h
 | x :: buf,k :: w,v,b,k0,h => by
  simp only [List.map_cons,List.cons.injEq,Prod.mk.injEq] at h
  obtain ⟨⟨h1,h2⟩,h3⟩:=h
  simp only [seenF,ownL]
  by_cases hx:x.addr = a
  ·rw [if_pos hx,if_pos (h1 ▸ hx)]
   right
   rcases seen_own ev a buf w x.word true k h3 with ⟨b1,b2,b3⟩|⟨k',hk',b1,b2,b3,b4⟩
   ·refine ⟨k,by simp,by rw [b1,h2],b2,h1 ▸ hx,fun _ k' hk' he => ?_⟩
    rcases List.mem_cons.1 hk' with rfl|hk'
    ·exact Int.le_refl _
    ·exact absurd he (b3 k' hk')
   ·refine ⟨k',List.mem_cons_of_mem _ hk',b1,b2,b3,fun hp k2 hk2 he => ?_⟩
    rw [List.pairwise_cons] at hp
    rcases List.mem_cons.1 hk2 with rfl|hk2
    ·have:=hp.1 _ hk';omega
    ·exact b4 hp.2 k2 hk2 he
  ·rw [if_neg hx,if_neg (fun he => hx (h1 ▸ he))]
   rcases seen_own ev a buf w v b k0 h3 with ⟨b1,b2,b3⟩|⟨k',hk',b1,b2,b3,b4⟩
   ·refine .inl ⟨b1,b2,fun k2 hk2 he => ?_⟩
    rcases List.mem_cons.1 hk2 with rfl|hk2
    ·exact hx (h1 ▸ he)
    ·exact b3 k2 hk2 he
   ·refine .inr ⟨k',List.mem_cons_of_mem _ hk',b1,b2,b3,fun hp k2 hk2 he => ?_⟩
    rw [List.pairwise_cons] at hp
    rcases List.mem_cons.1 hk2 with rfl|hk2
    ·exact absurd (h1 ▸ he) hx
    ·exact b4 hp.2 k2 hk2 he
end
end Go.Proofs.YtflicfkgbjmffaaGreat
end
