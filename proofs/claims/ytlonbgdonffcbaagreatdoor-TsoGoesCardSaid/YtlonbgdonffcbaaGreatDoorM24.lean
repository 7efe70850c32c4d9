import Derived.Test.YtlonbgdonffcbaaGreatDoorM23
import Derived.Test.YtlonbgdonffcbaaGreatDoorM18
section
/- Which turn, and what it does. -/
namespace Go.Proofs.YtlonbgdonffcbaaGreatDoor
open Go Go.cY Go.Proofs
set_option linter.unusedSimpArgs false
set_option linter.unusedVariables false
def out (s:bk) (k:Int):Prop:=k<0∨(s.bg.length:Int)≤k
instance (s:bk) (k:Int):Decidable (out s k):=by unfold out;infer_instance
def kd (s:bk) (k:Int):Int:=if out s k then 180 else 0
theorem fe {o:Obj} {s:bk} {L:Lay} {H:Hp} {nx:Nat} (h:fS o s L H nx) (k:Int):jB Tryz.prog 58 [.pt L.m 1 0 0,i64 k] H nx (i64 (kd s k)):=by
 refine aS BQ rfl ?_
 obtain⟨dm,hm⟩:=h.m
 obtain⟨dc,hc⟩:=h.c
 have hel:=dK h
 repeat' (first|((with_reducible refine aF ?_);conv=>whnf)|refine aG ?_|exact aC|with_reducible refine aD ?_ ?_|(apply aA;(·exact cF))|refine aH ?_|((with_reducible refine aB ?_ ?_)<;>intro hc<;>(try simp only[List.length_map,ne_eq,dW] at hc)<;>try(exfalso;omega)))
 ·refine pn.look ?_ dH
  rw[kd,if_pos (by unfold out;omega)]
 ·refine pn.look ?_ dH
  rw[kd,if_neg (by unfold out;omega)]
abbrev Obj.core (o:Obj) (q:Nat):Core:=o.bg.getD q default
def c8 (o:Obj) (s:bk) (q:Nat):Instr:=(o.core q).code.getD (s.core q).pc.toNat default
abbrev LP (s:bk) (L:Lay) (q:Nat) (d:AV) (i:Instr):AV:= .agg [.pt L.m 1 0 0, .pt L.c s.bg.length q 0,u8 i.kind,u8 i.op,i64 i.d,i64 i.a,i64 i.b,i64 i.addr,i64 i.to,i64 i.word,i64 i.fr,d]
def Kept (H:Hp) (nx:Nat) (r0:AV):AV→Hp→Nat→Prop:=fun r H' n=>r=r0∧nx≤n∧∀b,b<nx→bf H' b=bf H b
theorem B0 {o:Obj} {s:bk} {L:Lay} {H:Hp} {nx:Nat} (h:fS o s L H nx) {q:Nat} (hq:q<s.bg.length) (hn:s.bg.length=o.bg.length) (hpc:0≤(s.core q).pc∧(s.core q).pc<(o.core q).code.length) (d:Nat):
 bz Tryz.prog 59 [.pt L.m 1 0 0,i64 q, .pt d 1 0 0] H nx (Kept H nx (LP s L q (.pt d 1 0 0) (c8 o s q))):=by
 refine aO BR rfl ?_
 obtain⟨dm,hm⟩:=h.m
 obtain⟨dc,hc⟩:=h.c
 have hel:=dK h
 have hei:=eQ h hq
 obtain⟨l1,l2,l3,l4,l5⟩:=h.pd hq
 have hqo:q<o.bg.length:=by omega
 have hpc2:(s.bg.getD q default).pc.toNat<(o.bg.getD q default).code.length:=by
  have h1:(s.bg.getD q default).pc<(o.bg.getD q default).code.length:=hpc.2
  have h2:0≤(s.bg.getD q default).pc:=hpc.1
  omega
 have hpc3:0≤(s.bg.getD q default).pc:=hpc.1
 repeat' (first|((with_reducible refine aF ?_);conv=>whnf)|refine aG ?_|exact aC|with_reducible refine aD ?_ ?_|(apply aA;(·(first|exact hei _|exact dR _ _ _ _ hpc2|exact cF)))|refine aH ?_|((with_reducible refine aB ?_ ?_)<;>intro hc<;>(try simp only[List.length_map,ne_eq,dW] at hc)<;>try(exfalso;omega)))
 exact⟨⟨rfl,cO,dH⟩⟩
def fA (o:Obj) (s:bk) (q:Nat) (i:Instr):Bool:=if i.kind=4 then decide (o.buffer≤(s.core q).buf.length) else if i.kind=5∨i.kind=6∨i.kind=7 then decide ((0:Int)<(s.core q).buf.length) else false
theorem pA {o:Obj} {s:bk} {L:Lay} {H:Hp} {nx:Nat} (h:fS o s L H nx) {q:Nat} (hq:q<s.bg.length) (d:Nat) (i:Instr):
 jB Tryz.prog 60 [LP s L q (.pt d 1 0 0) i] H nx (bl (fA o s q i)):=by
 refine aS BS rfl ?_
 obtain⟨dm,hm⟩:=h.m
 obtain⟨dc,hc⟩:=h.c
 obtain⟨db,hb⟩:=h.c9 q hq
 have hel:=dK h
 have hei:=eQ h hq
 obtain⟨l1,l2,l3,l4,l5⟩:=h.pd hq
 repeat' (first|((with_reducible refine aF ?_);conv=>whnf)|refine aG ?_|exact aC|with_reducible refine aD ?_ ?_|(apply aA;(·(first|exact hei _|exact cF)))|refine aH ?_|((with_reducible refine aB ?_ ?_)<;>intro hc<;>(try simp only[List.length_map,ne_eq,dW] at hc)<;>try(exfalso;omega)))
 all_goals refine pn.look ?_ dH
 all_goals simp only[fA]
 ·rw[if_pos (by assumption)]
 ·rw[if_neg (by omega),if_pos (by omega)]
 ·rw[if_neg (by omega),if_pos (by omega)]
 ·rw[if_neg (by omega),if_pos (by omega)]
 ·rw[if_neg (by omega),if_neg (by omega)]
def j9 (k:Int):FuncId:=if k=1 then 78 else if k=2 then 79 else if k=3 then 80 else if k=4 then 81 else if k=5 then 82 else if k=6 then 83 else if k=7 then 84 else if k=8 then 85 else if k=9 then 86 else 87
def act (s:bk) (q:Nat) (i:Instr) (did:eF):bk×eF:=if i.kind=1 then sQ s q i did else if i.kind=2 then vB s q i did else if i.kind=3 then mJ s q i did else if i.kind=4 then lR s q i did else if i.kind=5 then oB s q i did else if i.kind=6 then lQ s q i did else if i.kind=7 then doPrint s q i did else if i.kind=8 then oA s q i did else if i.kind=9 then oC s q i did else nz s q i did
theorem kinds {k:Int} (h:1≤k∧k≤10):k=1∨k=2∨k=3∨k=4∨k=5∨k=6∨k=7∨k=8∨k=9∨k=10:=by omega
theorem lS (k:Int) (h:1≤k∧k≤10):Pure Tryz.prog 61 [u8 k] (fun r=>r= .fn (.func (j9 k)) [] []):=by
 rcases kinds h with rfl|rfl|rfl|rfl|rfl|rfl|rfl|rfl|rfl|rfl
 all_goals exact fq (by simp[cB,cJ]) (by kernel_rfl)
structure mW (i:Instr) (code mem:Int):Prop where
 kind:1≤i.kind∧i.kind≤10
 d:0≤i.d∧i.d<16
 a:0≤i.a∧i.a<16
 b:0≤i.b∧i.b<16
 op:i.kind=2→1≤i.op∧i.op≤18
 addr:i.kind=3∨i.kind=4∨i.kind=5→0≤i.addr∧i.addr<mem
 to:i.kind=8∨i.kind=9→0≤i.to∧i.to<code
theorem oZ {u:Bool} {n:Int} (h:within u n 16=true):0≤n∧n<16:=by
 simp only[within,Bool.or_eq_true,Bool.and_eq_true,decide_eq_true_eq] at h;omega
theorem lL {n m:Int} (h:within true n m=true):0≤n∧n<m:=by
 simpa[within] using h
theorem lA {i:Instr} {code mem:Int} (h:iI i code mem=true):mW i code mem:=by
 simp only[iI,Bool.and_eq_true] at h
 obtain⟨⟨⟨⟨⟨⟨⟨⟨⟨h1,_⟩,_⟩,h2⟩,h3⟩,h4⟩,h5⟩,h6⟩,h7⟩,_⟩:=h
 have hk:1≤i.kind∧i.kind≤10:=by simpa[kindOk] using h1
 refine⟨hk,oZ h3,oZ h4,oZ h5, ?_, ?_, ?_⟩
 ·intro h;simpa[h] using h2
 ·rintro(h|h|h)<;>rw[h] at h6
  ·rw[show mask 3 i.op=18 from rfl,show decide (da 18 16≠0)=true by decide] at h6;exact lL h6
  ·rw[show mask 4 i.op=20 from rfl,show decide (da 20 16≠0)=true by decide] at h6;exact lL h6
  ·rw[show mask 5 i.op=18 from rfl,show decide (da 18 16≠0)=true by decide] at h6;exact lL h6
 ·rintro(h|h)<;>rw[h] at h7
  ·rw[show mask 8 i.op=32 from rfl,show decide (da 32 32≠0)=true by decide] at h7;exact lL h7
  ·rw[show mask 9 i.op=36 from rfl,show decide (da 36 32≠0)=true by decide] at h7;exact lL h7
theorem DB {o:Obj} {s:bk} {L:Lay} {H:Hp} {nx:Nat} (h:fS o s L H nx) {q:Nat} (hq:q<s.bg.length) {d:Nat} {did:eF} (hd:j4 L H nx d did) (i:Instr) {code:Int} (ok:mW i code s.mem.length)
 (hbl:(s.core q).buf.length<1000) (hpl:(s.bh.length+1) * 16≤140737488355328):
 bz Tryz.prog (j9 i.kind) [fR s L q d i] H nx (gX o L H nx d (act s q i did).1 (act s q i did).2):=by
 have hk:=kinds ok.kind
 by_cases k1:i.kind=1
 ·simp only[j9,act,if_pos k1];exact H8 h hq hd i ok.d
 by_cases k2:i.kind=2
 ·simp only[j9,act,if_neg k1,if_pos k2]
  have ho:=ok.op k2
  by_cases ht:two i.op=true
  ·exact NF h hq hd i ok.d ok.a ok.b ht
  ·have ht:two i.op=false:=by simpa using ht
   refine ND h hq hd i ok.d ok.a ok.b ht ?_
   simp only[two,Bool.and_eq_false_iff,decide_eq_false_iff_not] at ht;omega
 by_cases k3:i.kind=3
 ·simp only[j9,act,if_neg k1,if_neg k2,if_pos k3];exact BW h hq hd i ok.d (ok.addr (by omega)) hbl
 by_cases k4:i.kind=4
 ·simp only[j9,act,if_neg k1,if_neg k2,if_neg k3,if_pos k4];exact yf h hq hd i ok.a hbl
 by_cases k5:i.kind=5
 ·simp only[j9,act,if_neg k1,if_neg k2,if_neg k3,if_neg k4,if_pos k5];exact CS h hq hd i ok.d (ok.addr (by omega))
 by_cases k6:i.kind=6
 ·simp only[j9,act,if_neg k1,if_neg k2,if_neg k3,if_neg k4,if_neg k5,if_pos k6];exact x8 h hq hd i
 by_cases k7:i.kind=7
 ·simp only[j9,act,if_neg k1,if_neg k2,if_neg k3,if_neg k4,if_neg k5,if_neg k6,if_pos k7];exact yR h hq hd i ok.a hpl
 by_cases k8:i.kind=8
 ·simp only[j9,act,if_neg k1,if_neg k2,if_neg k3,if_neg k4,if_neg k5,if_neg k6,if_neg k7,if_pos k8];exact BI h hq hd i
 by_cases k9:i.kind=9
 ·simp only[j9,act,if_neg k1,if_neg k2,if_neg k3,if_neg k4,if_neg k5,if_neg k6,if_neg k7,if_neg k8,if_pos k9];exact C2 h hq hd i ok.a
 simp only[j9,act,if_neg k1,if_neg k2,if_neg k3,if_neg k4,if_neg k5,if_neg k6,if_neg k7,if_neg k8,if_neg k9];exact BC h hq hd i
end Go.Proofs.YtlonbgdonffcbaaGreatDoor
/- A core's run. -/
namespace Go.Proofs.YtlonbgdonffcbaaGreatDoor
open Go Go.cY Go.Proofs
set_option linter.unusedSimpArgs false
set_option linter.unusedVariables false
theorem fS.dS {o:Obj} {s:bk} {L:Lay} {H H':Hp} {nx nx':Nat} (h:fS o s L H nx) (hf:∀b,b∈L.ids→bf H' b=bf H b) (hn:nx≤nx'):fS o s L H' nx':=by
 obtain⟨d1,h1⟩:=h.m
 obtain⟨d2,h2⟩:=h.c
 obtain⟨d3,h3⟩:=h.mem
 obtain⟨d4,h4⟩:=h.pr
 refine⟨⟨d1,(hf _ (by simp[Lay.ids])).trans h1⟩,⟨d2,(hf _ (by simp[Lay.ids])).trans h2⟩,⟨d3,(hf _ (by simp[Lay.ids])).trans h3⟩,⟨d4,(hf _ (by simp[Lay.ids])).trans h4⟩, ?_,h.lens,fun b hb=>Nat.lt_of_lt_of_le (h.lt b hb) hn,h.nodup⟩
 intro i hi
 obtain⟨d5,h5⟩:=h.c9 i hi
 exact⟨d5,(hf _ (by simp only[Lay.ids,List.mem_cons];exact .inr (.inr (.inr (.inr (Lay.kI (by rw[h.lens];exact hi))))))).trans h5⟩
theorem fS.cP {o:Obj} {s:bk} {L:Lay} {H H':Hp} {nx nx':Nat} (h:fS o s L H nx) (hf:∀b,b<nx→bf H' b=bf H b) (hn:nx≤nx'):fS o s L H' nx':=h.dS (fun b hb=>hf b (h.lt b hb)) hn
structure cz (o:Obj):Prop where
 buffer:1≤o.buffer∧o.buffer≤16
 bg:o.bg.length≤8
 mem:o.mem.length≤4096
 code:∀q,q<o.bg.length→1≤(o.core q).code.length∧(o.core q).code.length≤16384
 last:∀q,q<o.bg.length→qm (o.core q)=true
 ok:∀q,q<o.bg.length→∀k,k<(o.core q).code.length→iI ((o.core q).code.getD k default) (o.core q).code.length o.mem.length=true
structure Good (o:Obj) (s:bk):Prop where
 n:s.bg.length=o.bg.length
 mem:s.mem.length=o.mem.length
 pc:∀q,q<s.bg.length→0≤(s.core q).pc∧(s.core q).pc<(o.core q).code.length
 buf:∀q,q<s.bg.length→((s.core q).buf.length:Int)≤o.buffer
 addr:∀q,q<s.bg.length→∀x∈(s.core q).buf,0≤x.addr∧x.addr<s.mem.length
def ll:eF:=⟨0,0,0,0,0,0,false⟩
def bk.inc (s:bk) (q:Nat):bk:=s.cr q { s.core q with pc:=(s.core q).pc+1 }
def fD (o:Obj) (s:bk) (k:Int):bk×eF×Int:=
 if out s k then(s,ll,180) else if(s.core k.toNat).halted=true then(s,ll,0) else if fA o s k.toNat (c8 o s k.toNat)=true then(s,ll,181) else
  let r:=act (s.inc k.toNat) k.toNat (c8 o s k.toNat) { ll with core:=k,pc:=(s.core k.toNat).pc }
  (r.1,r.2,0)
def Stepped (o:Obj) (L:Lay) (H:Hp) (nx:Nat) (x:bk×eF×Int):AV→Hp→Nat→Prop:=fun r H' n=>
 r= .dB [x.2.1.av,i64 x.2.2]∧nx≤n∧(∃L',fS o x.1 L' H' n∧lp L L' nx)∧∀b,b<nx→b∉L.ids→bf H' b=bf H b
theorem Stepped.same {o:Obj} {s:bk} {L:Lay} {H H':Hp} {nx n:Nat} (h:fS o s L H nx) {d:eF} {e:Int} (hn:nx≤n) (hf:∀b,b<nx→bf H' b=bf H b):Stepped o L H nx (s,d,e) (.dB [d.av,i64 e]) H' n:=
 ⟨rfl,hn,⟨L,h.cP hf hn,lp.refl _ _⟩,fun b hb _=>hf b hb⟩
theorem E6 {L:Lay} {q:Nat} (h:q<L.c9.length):({ L with c9:=L.c9.set q (L.c9.getD q 0) }:Lay)=L:=by
 have e:L.c9.getD q 0=L.c9[q]:=by simp[List.getD,h]
 rw[e,List.set_getElem_self]
theorem qh {s:bk} {q:Nat} (hq:q<s.bg.length):(s.inc q).core q={ s.core q with pc:=(s.core q).pc+1 }:=by
 simp[bk.inc,bk.core,bk.cr,List.getD,hq]
theorem IX {o:Obj} {s:bk} {L:Lay} {H Hc:Hp} {nx nc:Nat} (h:fS o s L H nx) {q:Nat} (hq:q<s.bg.length) (hn:nx≤nc)
 (h1:∃d es,bf Hc L.m=some (.row 77 8 d es)∧es=[kG o s L])
 (h2:∃d es,bf Hc L.c=some (.row 93 19 d es)∧es=(rows s L).set q (bx.av { s.core q with pc:=(s.core q).pc+1 } (L.c9.getD q 0)))
 (h6:∀b,b<nx→b≠L.c→b∈L.ids→bf Hc b=bf H b)
 {d:Nat} {did:eF} (hd:j4 L Hc nc d did) (i:Instr) {code:Int} (ok:mW i code s.mem.length)
 (hbl:(s.core q).buf.length<1000) (hpl:(s.bh.length+1) * 16≤140737488355328):
 bz Tryz.prog (j9 i.kind) [fR s L q d i] Hc nc (gX o L Hc nc d (act (s.inc q) q i did).1 (act (s.inc q) q i did).2):=by
 obtain⟨e3,h3⟩:=h.mem
 obtain⟨e4,h4⟩:=h.pr
 obtain⟨e5,h5⟩:=h.c9 q hq
 obtain⟨a1,a2,a3,a4,a5,a6,a7,a8,a9,a10⟩:=h.apart hq
 obtain⟨l1,l2,l3,l4,l5⟩:=h.pd hq
 have hqb:q<L.c9.length:=by rw[h.lens];exact hq
 have hbm:∀j,j<s.bg.length→L.c9.getD j 0∈L.ids:=by
  intro j hj
  simp only[Lay.ids,List.mem_cons]
  exact .inr (.inr (.inr (.inr (Lay.kI (by rw[h.lens];exact hj)))))
 obtain⟨hM,_⟩:=h.next hq { s.core q with pc:=(s.core q).pc+1 } (L.c9.getD q 0) s.mem s.bh hn (.inl rfl) h1 h2
  ⟨e3,_,(h6 _ l3 (Ne.symm a4) (by simp[Lay.ids])).trans h3,rfl⟩ ⟨e4,_,(h6 _ l4 (Ne.symm a5) (by simp[Lay.ids])).trans h4,rfl⟩ ⟨e5,_,(h6 _ l5 (Ne.symm a8) (hbm q hq)).trans h5,rfl⟩
  (fun j hj _ hl _ hc _ _ _=>h6 _ hl hc (hbm j hj))
 rw[E6 hqb] at hM
 have hc:=qh hq
 have hlen:(s.inc q).bg.length=s.bg.length:=by simp[bk.inc,bk.cr]
 have hA:=DB (s:=s.inc q) (H:=Hc) hM (q:=q) (by rw[hlen];exact hq) hd i (code:=code) ok (by rw[hc];exact hbl) hpl
 have ht:fR (s.inc q) L q d i=fR s L q d i:=by simp only[fR,hlen]
 rw[ht] at hA
 exact hA
theorem KD {o:Obj} {s:bk} {L:Lay} {H:Hp} {nx:Nat} (h:fS o s L H nx) (k:Int) (hk:out s k):bz Tryz.prog 28 [.pt L.m 1 0 0,i64 k] H nx (Stepped o L H nx (fD o s k)):=by
 refine aO BP rfl ?_
 have he:kd s k=180:=by rw[kd,if_pos hk]
 rw[fD,if_pos hk]
 repeat' (first|((with_reducible refine aF ?_);conv=>whnf)|refine aG ?_|exact aC|with_reducible refine aD ?_ ?_|(apply aA;(·exact cF))|((refine aR (he▸fe (h.cP dH cO) k) ?_ ?_);(·exact True.intro))|((refine aV (fun _=>he▸fe (h.cP dH cO) k) ?_ ?_);(·exact True.intro))|refine aH ?_|((with_reducible refine aB ?_ ?_)<;>intro hc<;>(try simp only[List.length_map,ne_eq,dW] at hc)<;>try(exfalso;omega)))
 ·exact⟨Stepped.same h cO dH⟩
set_option maxRecDepth 20000 in
theorem CH {o:Obj} {s:bk} {L:Lay} {H:Hp} {nx:Nat} (h:fS o s L H nx) (g:Good o s) (ok:cz o) (hpl:(s.bh.length+1) * 16≤140737488355328) {q:Nat} (hq:q<s.bg.length):bz Tryz.prog 28 [.pt L.m 1 0 0,i64 q] H nx (Stepped o L H nx (fD o s q)):=by
 refine aO BP rfl ?_
 have hk:¬out s q:=by unfold out;omega
 have he:kd s q=0:=by rw[kd,if_neg hk]
 rw[fD,if_neg hk,Int.toNat_natCast]
 have iok:mW (c8 o s q) (o.core q).code.length o.mem.length:=lA (ok.ok q (by rw[←g.n];exact hq) (s.core q).pc.toNat (by have:=g.pc q hq;omega))
 repeat' (first|((with_reducible refine aF ?_);conv=>whnf)|refine aG ?_|exact aC|with_reducible refine aD ?_ ?_|(apply aA;(·exact cF))|((refine aR (he▸fe (h.cP dH cO) q) ?_ ?_);(·exact True.intro))|((refine aV (fun _=>he▸fe (h.cP dH cO) q) ?_ ?_);(·exact True.intro))|refine aH ?_|((with_reducible refine aB ?_ ?_)<;>intro hc<;>(try simp only[List.length_map,ne_eq,dW] at hc)<;>try(exfalso;omega)))
 refine aP (B0 (h.cP dH cO) hq g.n (g.pc q hq) _) ?_
 rintro _ H1 n1 ⟨rfl,hn1,hfr1⟩
 have hlt:=h.pd hq
 obtain⟨f4,e4⟩:∃df,bf H1 nx=some (ep ll df):=⟨_,(hfr1 _ cO).trans bo⟩
 obtain⟨f7,e7⟩:∃df,bf H1 (nx+1+1+1+1+1+1+1+1+1)=some (ep { ll with core:=q } df):=⟨_,(hfr1 _ cO).trans bo⟩
 have hfr:∀b,b<nx→bf H1 b=bf H b:=fun b hb=>(hfr1 b cO).trans (by repeat(first|exact rfl|(refine Eq.trans (bj (by omega)) ?_)))
 have hn2:nx+10≤n1:=by omega
 have h1:fS o s L H1 n1:=h.cP hfr (by omega)
 rw[ep] at e4 e7
 clear hfr1 hn1
 obtain⟨dm,rm⟩:=h1.m
 obtain⟨dc,rc⟩:=h1.c
 have hel:=dK h1
 have hei:=eQ h1 hq
 obtain⟨l1,l2,l3,l4,l5⟩:=hlt
 have hp1:0≤(s.bg.getD q default).pc∧(s.bg.getD q default).pc<16384:=by
  have p1:0≤(s.bg.getD q default).pc∧(s.bg.getD q default).pc<(o.core q).code.length:=g.pc q hq
  have p2:=ok.code q (by rw[←g.n];exact hq)
  omega
 obtain⟨a1,a2,a3,a4,a5,a6,a7,a8,a9,a10⟩:=h1.apart hq
 repeat' (first|((with_reducible refine aF ?_);conv=>whnf)|refine aG ?_|exact aC|with_reducible refine aD ?_ ?_|(apply aA;(·(first|exact hei _|exact cF)))|((refine aR (pA (h1.cP dH cO) hq _ (c8 o s q)) ?_ ?_);(·exact True.intro))|((refine aV (fun _=>pA (h1.cP dH cO) hq _ (c8 o s q)) ?_ ?_);(·exact True.intro))|((with_reducible refine aN (lS _ iok.kind) ?_ ?_);(·exact bn))|((with_reducible refine aM (fun _=>lS _ iok.kind) ?_ ?_);(·exact bn))|((with_reducible refine aJ (lS _ iok.kind) ?_ ?_);(·exact bn))|((with_reducible refine aL (fun _=>lS _ iok.kind) ?_ ?_);(·exact bn))|refine aH ?_|((with_reducible refine aB ?_ ?_)<;>intro hc<;>(try simp only[List.length_map,ne_eq,dW] at hc)<;>try(exfalso;omega)))
 ·rw[if_pos (by assumption)]
  exact⟨Stepped.same h cO (by intro _b _hb;repeat(first|exact hfr _ _hb|exact rfl|(refine Eq.trans (bj (by first|omega|(simp only[List.length_cons,List.length_nil];omega))) ?_)))⟩
 ·rw[if_neg (fun hx=>Bool.noConfusion (hx.symm.trans (show(s.core q).halted=false by assumption))),if_pos (by assumption)]
  exact⟨Stepped.same h cO (by intro _b _hb;repeat(first|exact hfr _ _hb|exact rfl|(refine Eq.trans (bj (by first|omega|(simp only[List.length_cons,List.length_nil];omega))) ?_)))⟩
 have hdo:(nx+1+1+1+1+1+1+1+1+1)∉L.ids:=fun hm=>by have:=h.lt _ hm;omega
 have hbl:(s.core q).buf.length<1000:=by have:=g.buf q hq;have:=ok.buffer;omega
 refine aP (IX (did:={ ll with core:=q,pc:=(s.core q).pc }) h1 hq cO ⟨_,_,bo,rfl⟩ ⟨_,_,bo,rfl⟩ (by intro b hb hbc hbi;have:=h.lt b hbi;repeat(first|exact rfl|(refine Eq.trans (bj (by omega)) ?_))) ⟨cO,hdo,⟨_,bo⟩⟩ (c8 o s q) (by rw[g.mem];exact iok) hbl hpl) ?_
 rintro _ H2 n2 ⟨hn3,⟨L',hM,hmv⟩,⟨fd,hdr⟩,hfr2⟩
 have hnx:nx∉L.ids:=fun hm=>by have:=h.lt _ hm;omega
 have hn4:nx+11≤n2:=Nat.le_trans cO hn3
 have e4b:bf H2 nx=some (.row 37 7 f4 [ll.av]):=(hfr2 nx cO hnx (by omega)).trans bo
 have hfr3:∀b,b<nx→b∉L.ids→bf H2 b=bf H b:=fun b hb hbo=>by
  obtain⟨o1,o2,o3,o4,o5⟩:=Lay.out hbo (q:=q) (by rw[h.lens];exact hq)
  exact(hfr2 b cO hbo (by omega)).trans (by repeat(first|exact hfr b hb|(refine Eq.trans (bj (by omega)) ?_)))
 have hmv2:∀b,b∈L'.ids→b∈L.ids∨nx+1≤b:=fun b hb=>(hmv.ids b hb).imp id (fun hh=>Nat.le_trans cO hh)
 have hmm:=hmv.m
 rw[ep] at hdr
 clear hfr2 hmv hn3
 repeat' (first|((with_reducible refine aF ?_);conv=>whnf)|refine aG ?_|exact aC|with_reducible refine aD ?_ ?_|(apply aA;(·exact cF))|refine aH ?_|((with_reducible refine aB ?_ ?_)<;>intro hc<;>(try simp only[List.length_map,ne_eq,dW] at hc)<;>try(exfalso;omega)))
 rw[if_neg (fun hx=>Bool.noConfusion (hx.symm.trans (show(s.core q).halted=false by assumption))),if_neg (fun hx=>Bool.noConfusion (hx.symm.trans (show fA o s q (c8 o s q)=false by assumption)))]
 refine⟨⟨rfl,cO,⟨L',hM.dS (fun b hb=> ?_) cO,⟨hmm,fun b hb=>(hmv2 b hb).imp id (fun hh=>by omega)⟩⟩,fun b hb hbo=> ?_⟩⟩
 ·have hne:b≠nx:=fun he=>(hmv2 b hb).elim (fun hh=>hnx (he▸hh)) (fun hh=>by omega)
  repeat(first|exact rfl|(refine Eq.trans (bj (by omega)) ?_))
 ·repeat(first|exact hfr3 b hb hbo|(refine Eq.trans (bj (by omega)) ?_))
theorem HX {o:Obj} {s:bk} {L:Lay} {H:Hp} {nx:Nat} (h:fS o s L H nx) (g:Good o s) (ok:cz o) (hpl:(s.bh.length+1) * 16≤140737488355328) (k:Int):bz Tryz.prog 28 [.pt L.m 1 0 0,i64 k] H nx (Stepped o L H nx (fD o s k)):=by
 by_cases hk:out s k
 ·exact KD h k hk
 ·have h2:k=(k.toNat:Int):=by unfold out at hk;omega
  rw[h2]
  exact CH h g ok hpl (by unfold out at hk;omega)
end Go.Proofs.YtlonbgdonffcbaaGreatDoor
end
section
/- A core's drain. -/
namespace Go.Proofs.YtlonbgdonffcbaaGreatDoor
open Go Go.cY Go.Proofs
set_option linter.unusedSimpArgs false
set_option linter.unusedVariables false
def dD (o:Obj) (s:bk) (k:Int):bk×eF×Int:=
 if out s k then(s,ll,180) else match(s.core k.toNat).buf with
  |[]=>(s,ll,0)
  |x::t=>({ s.cr k.toNat { s.core k.toNat with buf:=t } with mem:=s.mem.set x.addr.toNat x.word },⟨8,k,x.pc,x.addr,x.word,0,false⟩,0)
theorem AT {o:Obj} {s:bk} {L:Lay} {H:Hp} {nx:Nat} (h:fS o s L H nx) (k:Int) (hk:out s k):bz Tryz.prog 29 [.pt L.m 1 0 0,i64 k] H nx (Stepped o L H nx (dD o s k)):=by
 refine aO xx rfl ?_
 have he:kd s k=180:=by rw[kd,if_pos hk]
 rw[dD,if_pos hk]
 repeat' (first|((with_reducible refine aF ?_);conv=>whnf)|refine aG ?_|exact aC|with_reducible refine aD ?_ ?_|(apply aA;(·exact cF))|((refine aR (he▸fe (h.cP dH cO) k) ?_ ?_);(·exact True.intro))|((refine aV (fun _=>he▸fe (h.cP dH cO) k) ?_ ?_);(·exact True.intro))|refine aH ?_|((with_reducible refine aB ?_ ?_)<;>intro hc<;>(try simp only[List.length_map,ne_eq,dW] at hc)<;>try(exfalso;omega)))
 ·exact⟨Stepped.same h cO dH⟩
theorem AS {o:Obj} {s:bk} {L:Lay} {H:Hp} {nx:Nat} (h:fS o s L H nx) {q:Nat} (hq:q<s.bg.length) (hbuf:(s.core q).buf=[]):bz Tryz.prog 29 [.pt L.m 1 0 0,i64 q] H nx (Stepped o L H nx (dD o s q)):=by
 refine aO xx rfl ?_
 have hk:¬out s q:=by unfold out;omega
 have he:kd s q=0:=by rw[kd,if_neg hk]
 rw[dD,if_neg hk,Int.toNat_natCast,hbuf]
 obtain⟨dm,rm⟩:=h.m
 obtain⟨dc,rc⟩:=h.c
 obtain⟨db,rb⟩:=h.c9 q hq
 have hel:=dK h
 have hei:=eQ h hq
 have hbuf2:(s.bg.getD q default).buf=[]:=hbuf
 simp only[bx.av,hbuf2] at hei rb
 obtain⟨l1,l2,l3,l4,l5⟩:=h.pd hq
 repeat' (first|((with_reducible refine aF ?_);conv=>whnf)|refine aG ?_|exact aC|with_reducible refine aD ?_ ?_|(apply aA;(·(first|exact hei _|exact cF)))|((refine aR (he▸fe (h.cP dH cO) q) ?_ ?_);(·exact True.intro))|((refine aV (fun _=>he▸fe (h.cP dH cO) q) ?_ ?_);(·exact True.intro))|refine aH ?_|((with_reducible refine aB ?_ ?_)<;>intro hc<;>(try simp only[List.length_map,ne_eq,dW] at hc)<;>try(exfalso;omega)))
 exact⟨Stepped.same h cO dH⟩
theorem D2 {o:Obj} {s:bk} {L:Lay} {H:Hp} {nx:Nat} (h:fS o s L H nx) (g:Good o s) (ok:cz o) {q:Nat} (hq:q<s.bg.length) {x:cx} {t:List cx} (hbuf:(s.core q).buf=x::t):bz Tryz.prog 29 [.pt L.m 1 0 0,i64 q] H nx (Stepped o L H nx (dD o s q)):=by
 refine aO xx rfl ?_
 have hk:¬out s q:=by unfold out;omega
 have he:kd s q=0:=by rw[kd,if_neg hk]
 rw[dD,if_neg hk,Int.toNat_natCast,hbuf]
 obtain⟨dm,rm⟩:=h.m
 obtain⟨dc,rc⟩:=h.c
 obtain⟨dmem,rmem⟩:=h.mem
 obtain⟨dpr,rpr⟩:=h.pr
 obtain⟨db,rb⟩:=h.c9 q hq
 have hel:=dK h
 have hei:=eQ h hq
 have hbuf2:(s.bg.getD q default).buf=x::t:=hbuf
 have hx:=g.addr q hq x (by rw[hbuf];simp)
 have hbl:t.length<1000:=by
  have h1:=g.buf q hq
  have h2:=ok.buffer
  rw[hbuf,List.length_cons] at h1;omega
 simp only[bx.av,hbuf2,List.length_cons,List.map_cons] at hei rb
 obtain⟨l1,l2,l3,l4,l5⟩:=h.pd hq
 obtain⟨a1,a2,a3,a4,a5,a6,a7,a8,a9,a10⟩:=h.apart hq
 repeat' (first|((with_reducible refine aF ?_);conv=>whnf)|refine aG ?_|exact aC|with_reducible refine aD ?_ ?_|(apply aA;(·(first|exact hei _|exact cF)))|((refine aR (he▸fe (h.cP dH cO) q) ?_ ?_);(·exact True.intro))|((refine aV (fun _=>he▸fe (h.cP dH cO) q) ?_ ?_);(·exact True.intro))|refine aH ?_|((with_reducible refine aB ?_ ?_)<;>intro hc<;>(try simp only[List.length_map,ne_eq,dW] at hc)<;>try(exfalso;omega)))
 have hlen:((t.length+1:Nat):Int) - 1=(t.length:Int):=by omega
 have hlen2:(((t.length+1:Nat):Int) - 1).toNat=t.length:=by rw[hlen];simp
 refine⟨⟨rfl,cO,⟨_,h.next hq { s.core q with buf:=t } (nx+34) (s.mem.set x.addr.toNat x.word) s.bh cO (.inr ⟨cO,cO⟩) ⟨_,_,bo,(by simp only[List.length_set])⟩ ⟨_,_,bo,(by rw[hlen2];rfl)⟩ ⟨_,_,bo,(by rw[List.map_set])⟩ ⟨_,_,bo,rfl⟩ ⟨_,_,bo, ?_⟩ (by intro j hj hne hlt n1 n2 n3 n4 n5;repeat(first|exact rfl|(refine Eq.trans (bj (by omega)) ?_)))⟩,(by intro b' hb' hout;obtain⟨o1,o2,o3,o4,o5⟩:=Lay.out hout (q:=q) (by rw[h.lens];exact hq);repeat(first|exact rfl|(refine Eq.trans (bj (by omega)) ?_)))⟩⟩
 rw[hlen2]
 have e1:t.length+1 - Int.toNat 1=t.length:=by simp
 have e2:List.drop (Int.toNat 1) (x.av::List.map cx.av t)=List.map cx.av t:=rfl
 rw[e1,e2,List.take_of_length_le (by simp)]
 simp
 exact List.take_of_length_le (by simp)
theorem xW {o:Obj} {s:bk} {L:Lay} {H:Hp} {nx:Nat} (h:fS o s L H nx) (g:Good o s) (ok:cz o) (k:Int):bz Tryz.prog 29 [.pt L.m 1 0 0,i64 k] H nx (Stepped o L H nx (dD o s k)):=by
 by_cases hk:out s k
 ·exact AT h k hk
 ·have h2:k=(k.toNat:Int):=by unfold out at hk;omega
  rw[h2]
  have hq:k.toNat<s.bg.length:=by unfold out at hk;omega
  cases hb:(s.core k.toNat).buf with
  |nil=>exact AS h hq hb
  |cons x t=>exact D2 h g ok hq hb
def cj (o:Obj) (s:bk) (kind k:Int):bk×eF×Int:=if kind=1 then fD o s k else if kind=2 then dD o s k else(s,ll,182)
theorem IB {o:Obj} {s:bk} {L:Lay} {H:Hp} {nx:Nat} (h:fS o s L H nx) (g:Good o s) (ok:cz o) (hpl:(s.bh.length+1) * 16≤140737488355328) (k:Int):bz Tryz.prog 10 [.pt L.m 1 0 0, .agg [u8 1,i64 k]] H nx (Stepped o L H nx (fD o s k)):=by
 refine aO xu rfl ?_
 repeat' (first|((with_reducible refine aF ?_);conv=>whnf)|refine aG ?_|exact aC|with_reducible refine aD ?_ ?_|(apply aA;(·exact cF))|refine aH ?_|((with_reducible refine aB ?_ ?_)<;>intro hc<;>(try simp only[List.length_map,ne_eq,dW] at hc)<;>try(exfalso;omega)))
 refine aP (HX (h.cP dH cO) g ok hpl _) ?_
 rintro _ H2 n2 ⟨rfl,hn3,⟨L',hM,hmv⟩,hfr2⟩
 have hlt:=h.lt
 have hnx:nx+1∉L.ids:=fun hm=>by have:=h.lt _ hm;omega
 have hn4:nx+3≤n2:=Nat.le_trans cO hn3
 have e4b:bf H2 (nx+1)=some (.row 37 7 _ [ll.av]):=(hfr2 _ cO hnx).trans bo
 have hfr3:∀b,b<nx→b∉L.ids→bf H2 b=bf H b:=fun b hb hbo=>(hfr2 b cO hbo).trans (by repeat(first|exact rfl|(refine Eq.trans (bj (by omega)) ?_)))
 have hmv2:∀b,b∈L'.ids→b∈L.ids∨nx+2≤b:=fun b hb=>(hmv.ids b hb).imp id (fun hh=>Nat.le_trans cO hh)
 have hmm:=hmv.m
 clear hfr2 hmv hn3
 repeat' (first|((with_reducible refine aF ?_);conv=>whnf)|refine aG ?_|exact aC|with_reducible refine aD ?_ ?_|(apply aA;(·exact cF))|refine aH ?_|((with_reducible refine aB ?_ ?_)<;>intro hc<;>(try simp only[List.length_map,ne_eq,dW] at hc)<;>try(exfalso;omega)))
 refine⟨⟨rfl,cO,⟨L',hM.dS (fun b hb=> ?_) cO,⟨hmm,fun b hb=>(hmv2 b hb).imp id (fun hh=>by omega)⟩⟩,fun b hb hbo=> ?_⟩⟩
 ·have hne:b≠nx+1:=fun he=>(hmv2 b hb).elim (fun hh=>hnx (he▸hh)) (fun hh=>by omega)
  repeat(first|exact rfl|(refine Eq.trans (bj (by omega)) ?_))
 ·repeat(first|exact hfr3 b hb hbo|(refine Eq.trans (bj (by omega)) ?_))
theorem yd {o:Obj} {s:bk} {L:Lay} {H:Hp} {nx:Nat} (h:fS o s L H nx) (g:Good o s) (ok:cz o) (hpl:(s.bh.length+1) * 16≤140737488355328) (k:Int):bz Tryz.prog 10 [.pt L.m 1 0 0, .agg [u8 2,i64 k]] H nx (Stepped o L H nx (dD o s k)):=by
 refine aO xu rfl ?_
 repeat' (first|((with_reducible refine aF ?_);conv=>whnf)|refine aG ?_|exact aC|with_reducible refine aD ?_ ?_|(apply aA;(·exact cF))|refine aH ?_|((with_reducible refine aB ?_ ?_)<;>intro hc<;>(try simp only[List.length_map,ne_eq,dW] at hc)<;>try(exfalso;omega)))
 refine aP (xW (h.cP dH cO) g ok _) ?_
 rintro _ H2 n2 ⟨rfl,hn3,⟨L',hM,hmv⟩,hfr2⟩
 have hlt:=h.lt
 have hnx:nx+1∉L.ids:=fun hm=>by have:=h.lt _ hm;omega
 have hn4:nx+3≤n2:=Nat.le_trans cO hn3
 have e4b:bf H2 (nx+1)=some (.row 37 7 _ [ll.av]):=(hfr2 _ cO hnx).trans bo
 have hfr3:∀b,b<nx→b∉L.ids→bf H2 b=bf H b:=fun b hb hbo=>(hfr2 b cO hbo).trans (by repeat(first|exact rfl|(refine Eq.trans (bj (by omega)) ?_)))
 have hmv2:∀b,b∈L'.ids→b∈L.ids∨nx+2≤b:=fun b hb=>(hmv.ids b hb).imp id (fun hh=>Nat.le_trans cO hh)
 have hmm:=hmv.m
 clear hfr2 hmv hn3
 repeat' (first|((with_reducible refine aF ?_);conv=>whnf)|refine aG ?_|exact aC|with_reducible refine aD ?_ ?_|(apply aA;(·exact cF))|refine aH ?_|((with_reducible refine aB ?_ ?_)<;>intro hc<;>(try simp only[List.length_map,ne_eq,dW] at hc)<;>try(exfalso;omega)))
 refine⟨⟨rfl,cO,⟨L',hM.dS (fun b hb=> ?_) cO,⟨hmm,fun b hb=>(hmv2 b hb).imp id (fun hh=>by omega)⟩⟩,fun b hb hbo=> ?_⟩⟩
 ·have hne:b≠nx+1:=fun he=>(hmv2 b hb).elim (fun hh=>hnx (he▸hh)) (fun hh=>by omega)
  repeat(first|exact rfl|(refine Eq.trans (bj (by omega)) ?_))
 ·repeat(first|exact hfr3 b hb hbo|(refine Eq.trans (bj (by omega)) ?_))
theorem IA {o:Obj} {s:bk} {L:Lay} {H:Hp} {nx:Nat} (h:fS o s L H nx) (kind k:Int) (h1:kind≠1) (h2:kind≠2):bz Tryz.prog 10 [.pt L.m 1 0 0, .agg [u8 kind,i64 k]] H nx (Stepped o L H nx (s,ll,182)):=by
 refine aO xu rfl ?_
 repeat' (first|((with_reducible refine aF ?_);conv=>whnf)|refine aG ?_|exact aC|with_reducible refine aD ?_ ?_|(apply aA;(·exact cF))|refine aH ?_|((with_reducible refine aB ?_ ?_)<;>intro hc<;>(try simp only[List.length_map,ne_eq,dW] at hc)<;>try(exfalso;omega)))
 ·exact⟨Stepped.same h cO dH⟩
theorem lj {o:Obj} {s:bk} {L:Lay} {H:Hp} {nx:Nat} (h:fS o s L H nx) (g:Good o s) (ok:cz o) (hpl:(s.bh.length+1) * 16≤140737488355328) (kind k:Int):bz Tryz.prog 10 [.pt L.m 1 0 0, .agg [u8 kind,i64 k]] H nx (Stepped o L H nx (cj o s kind k)):=by
 unfold cj
 by_cases h1:kind=1
 ·subst h1;exact IB h g ok hpl k
 rw[if_neg h1]
 by_cases h2:kind=2
 ·subst h2;exact yd h g ok hpl k
 rw[if_neg h2]
 exact IA h kind k h1 h2
end Go.Proofs.YtlonbgdonffcbaaGreatDoor
/- Lists cloned. -/
namespace Go.Proofs.YtlonbgdonffcbaaGreatDoor
open Go Go.cY Go.Proofs
set_option linter.unusedSimpArgs false
set_option linter.unusedVariables false
def gT (H:Hp) (nx:Nat) (e:TypeId) (sz:Nat) (es:List AV):AV→Hp→Nat→Prop:=fun r H' n=>∃b' d',r= .sl b' es.length∧nx≤b'∧b'<n∧nx≤n∧bf H' b'=some (.row e sz d' es)∧∀b,b<nx→bf H' b=bf H b
theorem gT.of {P:Program} {f:FuncId} {args:List AV} {H:Hp} {nx:Nat} {e:TypeId} {sz:Nat} {es:List AV} (hsz:0<sz) (h:bz P f args H nx (fun r H' n=>(r= .sc (.slice none 0 0)∧es=[]∧nx≤n∧∀b,b<nx→bf H' b=bf H b)∨gT H nx e sz es r H' n)):bz P f args H nx (gT H nx e sz es):=by
 refine h.wk ?_
 rintro r H' n (⟨rfl,rfl,h1,h2⟩|h1)
 ·refine⟨_,_,_,Wk.nil (nx:=n) e sz .any hsz,n, .any,rfl,h1,Nat.lt_succ_self _,by omega,cN _ _ _,fun b hb=> ?_⟩
  rw[bj (by omega)];exact h2 b hb
 ·exact⟨r,H',n,Wk.refl _ _ _,h1⟩
theorem qQ {es:List AV} (hsz:es.length * 8≤140737488355328):bz Tryz.prog 27 [.im 1 .any es] [] 0 (gT [] 0 2 1 es):=by
 refine gT.of (by omega) ?_
 refine aO FI rfl ?_
 cases hes:es with
 |nil=>
  repeat' (first|((with_reducible refine aF ?_);conv=>whnf)|refine aG ?_|exact aC|with_reducible refine aD ?_ ?_|(apply aA;(·exact cF))|refine aH ?_|((with_reducible refine aB ?_ ?_)<;>intro hc<;>(try simp only[List.length_map,ne_eq,dW] at hc)<;>try(exfalso;omega)))
  ·exact⟨.inl ⟨rfl,rfl,cO,dH⟩⟩
  ·exact⟨.inr ⟨_,_,rfl,cO,cO,cO,bo,dH⟩⟩
 |cons x t=>
  rw[hes] at hsz
  simp only[List.length_cons] at hsz
  repeat' (first|((with_reducible refine aF ?_);conv=>whnf)|refine aG ?_|exact aC|with_reducible refine aD ?_ ?_|(apply aA;(·exact cF))|refine aH ?_|((with_reducible refine aB ?_ ?_)<;>intro hc<;>(try simp only[List.length_map,ne_eq,dW] at hc)<;>try(exfalso;omega)))
  ·exact⟨.inr ⟨3,_,(by simp),cO,cO,cO,bo,dH⟩⟩
theorem gC {es:List AV} (hsz:es.length * 8≤140737488355328):bz Tryz.prog 27 [.im 1 .any es] [] 0 (fun r1 H1 _=>∃b d0,r1= .sl b es.length∧bf H1 b=some (.row 2 1 d0 es)):=
 (qQ hsz).mono fun r H n ⟨b,d,h1,_,_,_,h2,_⟩=>⟨b,d,h1,h2⟩
theorem nv {es:List AV} (hsz:es.length * 8≤140737488355328) (hf:cJ 0 es):Pure Tryz.prog 27 [.im 1 .any es] (fun r=>r= .im 1 .any es):=(gC hsz).uQ hf
theorem pJ {es:List AV} (hsz:es.length * 24≤140737488355328):bz Tryz.prog 92 [.im 3 .any es] [] 0 (gT [] 0 125 3 es):=by
 refine gT.of (by omega) ?_
 refine aO G0 rfl ?_
 cases hes:es with
 |nil=>
  repeat' (first|((with_reducible refine aF ?_);conv=>whnf)|refine aG ?_|exact aC|with_reducible refine aD ?_ ?_|(apply aA;(·exact cF))|refine aH ?_|((with_reducible refine aB ?_ ?_)<;>intro hc<;>(try simp only[List.length_map,ne_eq,dW] at hc)<;>try(exfalso;omega)))
  ·exact⟨.inl ⟨rfl,rfl,cO,dH⟩⟩
  ·exact⟨.inr ⟨_,_,rfl,cO,cO,cO,bo,dH⟩⟩
 |cons x t=>
  rw[hes] at hsz
  simp only[List.length_cons] at hsz
  repeat' (first|((with_reducible refine aF ?_);conv=>whnf)|refine aG ?_|exact aC|with_reducible refine aD ?_ ?_|(apply aA;(·exact cF))|refine aH ?_|((with_reducible refine aB ?_ ?_)<;>intro hc<;>(try simp only[List.length_map,ne_eq,dW] at hc)<;>try(exfalso;omega)))
  ·exact⟨.inr ⟨3,_,(by simp),cO,cO,cO,bo,dH⟩⟩
theorem kT {es:List AV} (hsz:es.length * 24≤140737488355328):bz Tryz.prog 92 [.im 3 .any es] [] 0 (fun r1 H1 _=>∃b d0,r1= .sl b es.length∧bf H1 b=some (.row 125 3 d0 es)):=
 (pJ hsz).mono fun r H n ⟨b,d,h1,_,_,_,h2,_⟩=>⟨b,d,h1,h2⟩
theorem mn {es:List AV} (hsz:es.length * 24≤140737488355328) (hf:cJ 0 es):Pure Tryz.prog 92 [.im 3 .any es] (fun r=>r= .im 3 .any es):=(kT hsz).uQ hf
theorem pI {es:List AV} (hsz:es.length * 16≤140737488355328):bz Tryz.prog 34 [.im 2 .any es] [] 0 (gT [] 0 68 2 es):=by
 refine gT.of (by omega) ?_
 refine aO FM rfl ?_
 cases hes:es with
 |nil=>
  repeat' (first|((with_reducible refine aF ?_);conv=>whnf)|refine aG ?_|exact aC|with_reducible refine aD ?_ ?_|(apply aA;(·exact cF))|refine aH ?_|((with_reducible refine aB ?_ ?_)<;>intro hc<;>(try simp only[List.length_map,ne_eq,dW] at hc)<;>try(exfalso;omega)))
  ·exact⟨.inl ⟨rfl,rfl,cO,dH⟩⟩
  ·exact⟨.inr ⟨_,_,rfl,cO,cO,cO,bo,dH⟩⟩
 |cons x t=>
  rw[hes] at hsz
  simp only[List.length_cons] at hsz
  repeat' (first|((with_reducible refine aF ?_);conv=>whnf)|refine aG ?_|exact aC|with_reducible refine aD ?_ ?_|(apply aA;(·exact cF))|refine aH ?_|((with_reducible refine aB ?_ ?_)<;>intro hc<;>(try simp only[List.length_map,ne_eq,dW] at hc)<;>try(exfalso;omega)))
  ·exact⟨.inr ⟨3,_,(by simp),cO,cO,cO,bo,dH⟩⟩
theorem kS {es:List AV} (hsz:es.length * 16≤140737488355328):bz Tryz.prog 34 [.im 2 .any es] [] 0 (fun r1 H1 _=>∃b d0,r1= .sl b es.length∧bf H1 b=some (.row 68 2 d0 es)):=
 (pI hsz).mono fun r H n ⟨b,d,h1,_,_,_,h2,_⟩=>⟨b,d,h1,h2⟩
theorem ml {es:List AV} (hsz:es.length * 16≤140737488355328) (hf:cJ 0 es):Pure Tryz.prog 34 [.im 2 .any es] (fun r=>r= .im 2 .any es):=(kS hsz).uQ hf
theorem re {es:List AV} (hsz:es.length * 64≤140737488355328):bz Tryz.prog 26 [.im 9 .any es] [] 0 (gT [] 0 63 9 es):=by
 refine gT.of (by omega) ?_
 refine aO FH rfl ?_
 cases hes:es with
 |nil=>
  repeat' (first|((with_reducible refine aF ?_);conv=>whnf)|refine aG ?_|exact aC|with_reducible refine aD ?_ ?_|(apply aA;(·exact cF))|refine aH ?_|((with_reducible refine aB ?_ ?_)<;>intro hc<;>(try simp only[List.length_map,ne_eq,dW] at hc)<;>try(exfalso;omega)))
  ·exact⟨.inl ⟨rfl,rfl,cO,dH⟩⟩
  ·exact⟨.inr ⟨_,_,rfl,cO,cO,cO,bo,dH⟩⟩
 |cons x t=>
  rw[hes] at hsz
  simp only[List.length_cons] at hsz
  repeat' (first|((with_reducible refine aF ?_);conv=>whnf)|refine aG ?_|exact aC|with_reducible refine aD ?_ ?_|(apply aA;(·exact cF))|refine aH ?_|((with_reducible refine aB ?_ ?_)<;>intro hc<;>(try simp only[List.length_map,ne_eq,dW] at hc)<;>try(exfalso;omega)))
  ·exact⟨.inr ⟨3,_,(by simp),cO,cO,cO,bo,dH⟩⟩
theorem rf {es:List AV} (hsz:es.length * 64≤140737488355328):bz Tryz.prog 26 [.im 9 .any es] [] 0 (fun r1 H1 _=>∃b d0,r1= .sl b es.length∧bf H1 b=some (.row 63 9 d0 es)):=
 (re hsz).mono fun r H n ⟨b,d,h1,_,_,_,h2,_⟩=>⟨b,d,h1,h2⟩
theorem pH {es:List AV} (hsz:es.length * 64≤140737488355328) (hf:cJ 0 es):Pure Tryz.prog 26 [.im 9 .any es] (fun r=>r= .im 9 .any es):=(rf hsz).uQ hf
end Go.Proofs.YtlonbgdonffcbaaGreatDoor
end
