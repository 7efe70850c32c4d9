import Derived.Test.YtlonbgdonffcbaaGreatDoorM23
import Derived.Test.YtlonbgdonffcbaaGreatDoorM18
section
/- Which turn, and what it does. -/
namespace Go.Proofs.YtlonbgdonffcbaaGreatDoor
open Go Go.cU Go.Proofs
set_option linter.unusedSimpArgs false
set_option linter.unusedVariables false
def out (s:bk) (k:Int):Prop:=k<0∨(s.bd.length:Int)≤k
instance (s:bk) (k:Int):Decidable (out s k):=by unfold out;infer_instance
def kU (s:bk) (k:Int):Int:=if out s k then 180 else 0
theorem fV {o:Obj} {s:bk} {L:Lay} {H:Hp} {nx:Nat} (h:fh o s L H nx) (k:Int):ic Tryz.prog 58 [.pt L.m 1 0 0,i64 k] H nx (i64 (kU s k)):=by
 refine aT AT rfl ?_
 obtain⟨dm,hm⟩:=h.m
 obtain⟨dc,hc⟩:=h.c
 have hel:=dG h
 repeat' (first|((with_reducible refine aF ?_);conv=>whnf)|refine aG ?_|exact aC|with_reducible refine aD ?_ ?_|(apply aA;(·exact bz))|refine aH ?_|((with_reducible refine aB ?_ ?_)<;>intro hc<;>(try simp only[List.length_map,ne_eq,dL] at hc)<;>try(exfalso;omega)))
 ·refine pK.look ?_ dC
  rw[kU,if_pos (by unfold out;omega)]
 ·refine pK.look ?_ dC
  rw[kU,if_neg (by unfold out;omega)]
abbrev Obj.core (o:Obj) (q:Nat):Core:=o.bd.getD q default
def cX (o:Obj) (s:bk) (q:Nat):Instr:=(o.core q).code.getD (s.core q).pc.toNat default
abbrev KQ (s:bk) (L:Lay) (q:Nat) (d:AV) (i:Instr):AV:= .agg [.pt L.m 1 0 0, .pt L.c s.bd.length q 0,u8 i.kind,u8 i.op,i64 i.d,i64 i.a,i64 i.b,i64 i.addr,i64 i.to,i64 i.word,i64 i.fr,d]
def Kept (H:Hp) (nx:Nat) (r0:AV):AV→Hp→Nat→Prop:=fun r H' n=>r=r0∧nx≤n∧∀b,b<nx→bf H' b=bf H b
theorem A5 {o:Obj} {s:bk} {L:Lay} {H:Hp} {nx:Nat} (h:fh o s L H nx) {q:Nat} (hq:q<s.bd.length) (hn:s.bd.length=o.bd.length) (hpc:0≤(s.core q).pc∧(s.core q).pc<(o.core q).code.length) (d:Nat):
 bw Tryz.prog 59 [.pt L.m 1 0 0,i64 q, .pt d 1 0 0] H nx (Kept H nx (KQ s L q (.pt d 1 0 0) (cX o s q))):=by
 refine aO AU rfl ?_
 obtain⟨dm,hm⟩:=h.m
 obtain⟨dc,hc⟩:=h.c
 have hel:=dG h
 have hei:=eM h hq
 obtain⟨l1,l2,l3,l4,l5⟩:=h.pE hq
 have hqo:q<o.bd.length:=by omega
 have hpc2:(s.bd.getD q default).pc.toNat<(o.bd.getD q default).code.length:=by
  have h1:(s.bd.getD q default).pc<(o.bd.getD q default).code.length:=hpc.2
  have h2:0≤(s.bd.getD q default).pc:=hpc.1
  omega
 have hpc3:0≤(s.bd.getD q default).pc:=hpc.1
 repeat' (first|((with_reducible refine aF ?_);conv=>whnf)|refine aG ?_|exact aC|with_reducible refine aD ?_ ?_|(apply aA;(·(first|exact hei _|exact dS _ _ _ _ hpc2|exact bz)))|refine aH ?_|((with_reducible refine aB ?_ ?_)<;>intro hc<;>(try simp only[List.length_map,ne_eq,dL] at hc)<;>try(exfalso;omega)))
 exact⟨⟨rfl,cM,dC⟩⟩
def ep (o:Obj) (s:bk) (q:Nat) (i:Instr):Bool:=if i.kind=4 then decide (o.buffer≤(s.core q).buf.length) else if i.kind=5∨i.kind=6∨i.kind=7 then decide ((0:Int)<(s.core q).buf.length) else false
theorem oV {o:Obj} {s:bk} {L:Lay} {H:Hp} {nx:Nat} (h:fh o s L H nx) {q:Nat} (hq:q<s.bd.length) (d:Nat) (i:Instr):
 ic Tryz.prog 60 [KQ s L q (.pt d 1 0 0) i] H nx (bl (ep o s q i)):=by
 refine aT AW rfl ?_
 obtain⟨dm,hm⟩:=h.m
 obtain⟨dc,hc⟩:=h.c
 obtain⟨db,hb⟩:=h.cZ q hq
 have hel:=dG h
 have hei:=eM h hq
 obtain⟨l1,l2,l3,l4,l5⟩:=h.pE hq
 repeat' (first|((with_reducible refine aF ?_);conv=>whnf)|refine aG ?_|exact aC|with_reducible refine aD ?_ ?_|(apply aA;(·(first|exact hei _|exact bz)))|refine aH ?_|((with_reducible refine aB ?_ ?_)<;>intro hc<;>(try simp only[List.length_map,ne_eq,dL] at hc)<;>try(exfalso;omega)))
 all_goals refine pK.look ?_ dC
 all_goals simp only[ep]
 ·rw[if_pos (by assumption)]
 ·rw[if_neg (by omega),if_pos (by omega)]
 ·rw[if_neg (by omega),if_pos (by omega)]
 ·rw[if_neg (by omega),if_pos (by omega)]
 ·rw[if_neg (by omega),if_neg (by omega)]
def jZ (k:Int):FuncId:=if k=1 then 78 else if k=2 then 79 else if k=3 then 80 else if k=4 then 81 else if k=5 then 82 else if k=6 then 83 else if k=7 then 84 else if k=8 then 85 else if k=9 then 86 else 87
def act (s:bk) (q:Nat) (i:Instr) (did:eA):bk×eA:=if i.kind=1 then rf s q i did else if i.kind=2 then uV s q i did else if i.kind=3 then ll s q i did else if i.kind=4 then lL s q i did else if i.kind=5 then nX s q i did else if i.kind=6 then lK s q i did else if i.kind=7 then doPrint s q i did else if i.kind=8 then nW s q i did else if i.kind=9 then nY s q i did else nV s q i did
theorem kinds {k:Int} (h:1≤k∧k≤10):k=1∨k=2∨k=3∨k=4∨k=5∨k=6∨k=7∨k=8∨k=9∨k=10:=by omega
theorem lM (k:Int) (h:1≤k∧k≤10):Pure Tryz.prog 61 [u8 k] (fun r=>r= .fn (.func (jZ k)) [] []):=by
 rcases kinds h with rfl|rfl|rfl|rfl|rfl|rfl|rfl|rfl|rfl|rfl
 all_goals exact fe (by simp[cA,cH]) (by kernel_rfl)
structure oB (i:Instr) (code mem:Int):Prop where
 kind:1≤i.kind∧i.kind≤10
 d:0≤i.d∧i.d<16
 a:0≤i.a∧i.a<16
 b:0≤i.b∧i.b<16
 op:i.kind=2→1≤i.op∧i.op≤18
 addr:i.kind=3∨i.kind=4∨i.kind=5→0≤i.addr∧i.addr<mem
 to:i.kind=8∨i.kind=9→0≤i.to∧i.to<code
theorem oA {u:Bool} {n:Int} (h:within u n 16=true):0≤n∧n<16:=by
 simp only[within,Bool.or_eq_true,Bool.and_eq_true,decide_eq_true_eq] at h;omega
theorem lG {n m:Int} (h:within true n m=true):0≤n∧n<m:=by
 simpa[within] using h
theorem kr {i:Instr} {code mem:Int} (h:hX i code mem=true):oB i code mem:=by
 simp only[hX,Bool.and_eq_true] at h
 obtain⟨⟨⟨⟨⟨⟨⟨⟨⟨h1,_⟩,_⟩,h2⟩,h3⟩,h4⟩,h5⟩,h6⟩,h7⟩,_⟩:=h
 have hk:1≤i.kind∧i.kind≤10:=by simpa[kindOk] using h1
 refine⟨hk,oA h3,oA h4,oA h5, ?_, ?_, ?_⟩
 ·intro h;simpa[h] using h2
 ·rintro(h|h|h)<;>rw[h] at h6
  ·rw[show mask 3 i.op=18 from rfl,show decide (dW 18 16≠0)=true by decide] at h6;exact lG h6
  ·rw[show mask 4 i.op=20 from rfl,show decide (dW 20 16≠0)=true by decide] at h6;exact lG h6
  ·rw[show mask 5 i.op=18 from rfl,show decide (dW 18 16≠0)=true by decide] at h6;exact lG h6
 ·rintro(h|h)<;>rw[h] at h7
  ·rw[show mask 8 i.op=32 from rfl,show decide (dW 32 32≠0)=true by decide] at h7;exact lG h7
  ·rw[show mask 9 i.op=36 from rfl,show decide (dW 36 32≠0)=true by decide] at h7;exact lG h7
theorem CG {o:Obj} {s:bk} {L:Lay} {H:Hp} {nx:Nat} (h:fh o s L H nx) {q:Nat} (hq:q<s.bd.length) {d:Nat} {did:eA} (hd:jT L H nx d did) (i:Instr) {code:Int} (ok:oB i code s.mem.length)
 (hbl:(s.core q).buf.length<1000) (hpl:(s.bg.length+1) * 16≤140737488355328):
 bw Tryz.prog (jZ i.kind) [fM s L q d i] H nx (gM o L H nx d (act s q i did).1 (act s q i did).2):=by
 have hk:=kinds ok.kind
 by_cases k1:i.kind=1
 ·simp only[jZ,act,if_pos k1];exact G3 h hq hd i ok.d
 by_cases k2:i.kind=2
 ·simp only[jZ,act,if_neg k1,if_pos k2]
  have ho:=ok.op k2
  by_cases ht:two i.op=true
  ·exact MI h hq hd i ok.d ok.a ok.b ht
  ·have ht:two i.op=false:=by simpa using ht
   refine MH h hq hd i ok.d ok.a ok.b ht ?_
   simp only[two,Bool.and_eq_false_iff,decide_eq_false_iff_not] at ht;omega
 by_cases k3:i.kind=3
 ·simp only[jZ,act,if_neg k1,if_neg k2,if_pos k3];exact A0 h hq hd i ok.d (ok.addr (by omega)) hbl
 by_cases k4:i.kind=4
 ·simp only[jZ,act,if_neg k1,if_neg k2,if_neg k3,if_pos k4];exact yG h hq hd i ok.a hbl
 by_cases k5:i.kind=5
 ·simp only[jZ,act,if_neg k1,if_neg k2,if_neg k3,if_neg k4,if_pos k5];exact BX h hq hd i ok.d (ok.addr (by omega))
 by_cases k6:i.kind=6
 ·simp only[jZ,act,if_neg k1,if_neg k2,if_neg k3,if_neg k4,if_neg k5,if_pos k6];exact wz h hq hd i
 by_cases k7:i.kind=7
 ·simp only[jZ,act,if_neg k1,if_neg k2,if_neg k3,if_neg k4,if_neg k5,if_neg k6,if_pos k7];exact xg h hq hd i ok.a hpl
 by_cases k8:i.kind=8
 ·simp only[jZ,act,if_neg k1,if_neg k2,if_neg k3,if_neg k4,if_neg k5,if_neg k6,if_neg k7,if_pos k8];exact AM h hq hd i
 by_cases k9:i.kind=9
 ·simp only[jZ,act,if_neg k1,if_neg k2,if_neg k3,if_neg k4,if_neg k5,if_neg k6,if_neg k7,if_neg k8,if_pos k9];exact B6 h hq hd i ok.a
 simp only[jZ,act,if_neg k1,if_neg k2,if_neg k3,if_neg k4,if_neg k5,if_neg k6,if_neg k7,if_neg k8,if_neg k9];exact AG h hq hd i
end Go.Proofs.YtlonbgdonffcbaaGreatDoor
/- A core's run. -/
namespace Go.Proofs.YtlonbgdonffcbaaGreatDoor
open Go Go.cU Go.Proofs
set_option linter.unusedSimpArgs false
set_option linter.unusedVariables false
theorem fh.fB {o:Obj} {s:bk} {L:Lay} {H H':Hp} {nx nx':Nat} (h:fh o s L H nx) (hf:∀b,b∈L.ids→bf H' b=bf H b) (hn:nx≤nx'):fh o s L H' nx':=by
 obtain⟨d1,h1⟩:=h.m
 obtain⟨d2,h2⟩:=h.c
 obtain⟨d3,h3⟩:=h.mem
 obtain⟨d4,h4⟩:=h.pr
 refine⟨⟨d1,(hf _ (by simp[Lay.ids])).trans h1⟩,⟨d2,(hf _ (by simp[Lay.ids])).trans h2⟩,⟨d3,(hf _ (by simp[Lay.ids])).trans h3⟩,⟨d4,(hf _ (by simp[Lay.ids])).trans h4⟩, ?_,h.lens,fun b hb=>Nat.lt_of_lt_of_le (h.lt b hb) hn,h.nodup⟩
 intro i hi
 obtain⟨d5,h5⟩:=h.cZ i hi
 exact⟨d5,(hf _ (by simp only[Lay.ids,List.mem_cons];exact .inr (.inr (.inr (.inr (Lay.jz (by rw[h.lens];exact hi))))))).trans h5⟩
theorem fh.cL {o:Obj} {s:bk} {L:Lay} {H H':Hp} {nx nx':Nat} (h:fh o s L H nx) (hf:∀b,b<nx→bf H' b=bf H b) (hn:nx≤nx'):fh o s L H' nx':=h.fB (fun b hb=>hf b (h.lt b hb)) hn
structure cx (o:Obj):Prop where
 buffer:1≤o.buffer∧o.buffer≤16
 bd:o.bd.length≤8
 mem:o.mem.length≤4096
 code:∀q,q<o.bd.length→1≤(o.core q).code.length∧(o.core q).code.length≤16384
 last:∀q,q<o.bd.length→qQ (o.core q)=true
 ok:∀q,q<o.bd.length→∀k,k<(o.core q).code.length→hX ((o.core q).code.getD k default) (o.core q).code.length o.mem.length=true
structure Good (o:Obj) (s:bk):Prop where
 n:s.bd.length=o.bd.length
 mem:s.mem.length=o.mem.length
 pc:∀q,q<s.bd.length→0≤(s.core q).pc∧(s.core q).pc<(o.core q).code.length
 buf:∀q,q<s.bd.length→((s.core q).buf.length:Int)≤o.buffer
 addr:∀q,q<s.bd.length→∀x∈(s.core q).buf,0≤x.addr∧x.addr<s.mem.length
def lW:eA:=⟨0,0,0,0,0,0,false⟩
def bk.inc (s:bk) (q:Nat):bk:=s.cn q { s.core q with pc:=(s.core q).pc+1 }
def fE (o:Obj) (s:bk) (k:Int):bk×eA×Int:=
 if out s k then(s,lW,180) else if(s.core k.toNat).halted=true then(s,lW,0) else if ep o s k.toNat (cX o s k.toNat)=true then(s,lW,181) else
  let r:=act (s.inc k.toNat) k.toNat (cX o s k.toNat) { lW with core:=k,pc:=(s.core k.toNat).pc }
  (r.1,r.2,0)
def Stepped (o:Obj) (L:Lay) (H:Hp) (nx:Nat) (x:bk×eA×Int):AV→Hp→Nat→Prop:=fun r H' n=>
 r= .dE [x.2.1.av,i64 x.2.2]∧nx≤n∧(∃L',fh o x.1 L' H' n∧lY L L' nx)∧∀b,b<nx→b∉L.ids→bf H' b=bf H b
theorem Stepped.same {o:Obj} {s:bk} {L:Lay} {H H':Hp} {nx n:Nat} (h:fh o s L H nx) {d:eA} {e:Int} (hn:nx≤n) (hf:∀b,b<nx→bf H' b=bf H b):Stepped o L H nx (s,d,e) (.dE [d.av,i64 e]) H' n:=
 ⟨rfl,hn,⟨L,h.cL hf hn,lY.refl _ _⟩,fun b hb _=>hf b hb⟩
theorem ED {L:Lay} {q:Nat} (h:q<L.cZ.length):({ L with cZ:=L.cZ.set q (L.cZ.getD q 0) }:Lay)=L:=by
 have e:L.cZ.getD q 0=L.cZ[q]:=by simp[List.getD,h]
 rw[e,List.set_getElem_self]
theorem qK {s:bk} {q:Nat} (hq:q<s.bd.length):(s.inc q).core q={ s.core q with pc:=(s.core q).pc+1 }:=by
 simp[bk.inc,bk.core,bk.cn,List.getD,hq]
theorem HN {o:Obj} {s:bk} {L:Lay} {H Hc:Hp} {nx nc:Nat} (h:fh o s L H nx) {q:Nat} (hq:q<s.bd.length) (hn:nx≤nc)
 (h1:∃d es,bf Hc L.m=some (.row 77 8 d es)∧es=[jx o s L])
 (h2:∃d es,bf Hc L.c=some (.row 93 19 d es)∧es=(rows s L).set q (bx.av { s.core q with pc:=(s.core q).pc+1 } (L.cZ.getD q 0)))
 (h6:∀b,b<nx→b≠L.c→b∈L.ids→bf Hc b=bf H b)
 {d:Nat} {did:eA} (hd:jT L Hc nc d did) (i:Instr) {code:Int} (ok:oB i code s.mem.length)
 (hbl:(s.core q).buf.length<1000) (hpl:(s.bg.length+1) * 16≤140737488355328):
 bw Tryz.prog (jZ i.kind) [fM s L q d i] Hc nc (gM o L Hc nc d (act (s.inc q) q i did).1 (act (s.inc q) q i did).2):=by
 obtain⟨e3,h3⟩:=h.mem
 obtain⟨e4,h4⟩:=h.pr
 obtain⟨e5,h5⟩:=h.cZ q hq
 obtain⟨a1,a2,a3,a4,a5,a6,a7,a8,a9,a10⟩:=h.apart hq
 obtain⟨l1,l2,l3,l4,l5⟩:=h.pE hq
 have hqb:q<L.cZ.length:=by rw[h.lens];exact hq
 have hbm:∀j,j<s.bd.length→L.cZ.getD j 0∈L.ids:=by
  intro j hj
  simp only[Lay.ids,List.mem_cons]
  exact .inr (.inr (.inr (.inr (Lay.jz (by rw[h.lens];exact hj)))))
 obtain⟨hM,_⟩:=h.next hq { s.core q with pc:=(s.core q).pc+1 } (L.cZ.getD q 0) s.mem s.bg hn (.inl rfl) h1 h2
  ⟨e3,_,(h6 _ l3 (Ne.symm a4) (by simp[Lay.ids])).trans h3,rfl⟩ ⟨e4,_,(h6 _ l4 (Ne.symm a5) (by simp[Lay.ids])).trans h4,rfl⟩ ⟨e5,_,(h6 _ l5 (Ne.symm a8) (hbm q hq)).trans h5,rfl⟩
  (fun j hj _ hl _ hc _ _ _=>h6 _ hl hc (hbm j hj))
 rw[ED hqb] at hM
 have hc:=qK hq
 have hlen:(s.inc q).bd.length=s.bd.length:=by simp[bk.inc,bk.cn]
 have hA:=CG (s:=s.inc q) (H:=Hc) hM (q:=q) (by rw[hlen];exact hq) hd i (code:=code) ok (by rw[hc];exact hbl) hpl
 have ht:fM (s.inc q) L q d i=fM s L q d i:=by simp only[fM,hlen]
 rw[ht] at hA
 exact hA
theorem JJ {o:Obj} {s:bk} {L:Lay} {H:Hp} {nx:Nat} (h:fh o s L H nx) (k:Int) (hk:out s k):bw Tryz.prog 28 [.pt L.m 1 0 0,i64 k] H nx (Stepped o L H nx (fE o s k)):=by
 refine aO AS rfl ?_
 have he:kU s k=180:=by rw[kU,if_pos hk]
 rw[fE,if_pos hk]
 repeat' (first|((with_reducible refine aF ?_);conv=>whnf)|refine aG ?_|exact aC|with_reducible refine aD ?_ ?_|(apply aA;(·exact bz))|((refine aQ (he▸fV (h.cL dC cM) k) ?_ ?_);(·exact True.intro))|((refine aV (fun _=>he▸fV (h.cL dC cM) k) ?_ ?_);(·exact True.intro))|refine aH ?_|((with_reducible refine aB ?_ ?_)<;>intro hc<;>(try simp only[List.length_map,ne_eq,dL] at hc)<;>try(exfalso;omega)))
 ·exact⟨Stepped.same h cM dC⟩
set_option maxRecDepth 20000 in
theorem BK {o:Obj} {s:bk} {L:Lay} {H:Hp} {nx:Nat} (h:fh o s L H nx) (g:Good o s) (ok:cx o) (hpl:(s.bg.length+1) * 16≤140737488355328) {q:Nat} (hq:q<s.bd.length):bw Tryz.prog 28 [.pt L.m 1 0 0,i64 q] H nx (Stepped o L H nx (fE o s q)):=by
 refine aO AS rfl ?_
 have hk:¬out s q:=by unfold out;omega
 have he:kU s q=0:=by rw[kU,if_neg hk]
 rw[fE,if_neg hk,Int.toNat_natCast]
 have iok:oB (cX o s q) (o.core q).code.length o.mem.length:=kr (ok.ok q (by rw[←g.n];exact hq) (s.core q).pc.toNat (by have:=g.pc q hq;omega))
 repeat' (first|((with_reducible refine aF ?_);conv=>whnf)|refine aG ?_|exact aC|with_reducible refine aD ?_ ?_|(apply aA;(·exact bz))|((refine aQ (he▸fV (h.cL dC cM) q) ?_ ?_);(·exact True.intro))|((refine aV (fun _=>he▸fV (h.cL dC cM) q) ?_ ?_);(·exact True.intro))|refine aH ?_|((with_reducible refine aB ?_ ?_)<;>intro hc<;>(try simp only[List.length_map,ne_eq,dL] at hc)<;>try(exfalso;omega)))
 refine aP (A5 (h.cL dC cM) hq g.n (g.pc q hq) _) ?_
 rintro _ H1 n1 ⟨rfl,hn1,hfr1⟩
 have hlt:=h.pE hq
 obtain⟨f4,e4⟩:∃df,bf H1 nx=some (ef lW df):=⟨_,(hfr1 _ cM).trans bn⟩
 obtain⟨f7,e7⟩:∃df,bf H1 (nx+1+1+1+1+1+1+1+1+1)=some (ef { lW with core:=q } df):=⟨_,(hfr1 _ cM).trans bn⟩
 have hfr:∀b,b<nx→bf H1 b=bf H b:=fun b hb=>(hfr1 b cM).trans (by repeat(first|exact rfl|(refine Eq.trans (bh (by omega)) ?_)))
 have hn2:nx+10≤n1:=by omega
 have h1:fh o s L H1 n1:=h.cL hfr (by omega)
 rw[ef] at e4 e7
 clear hfr1 hn1
 obtain⟨dm,rm⟩:=h1.m
 obtain⟨dc,rc⟩:=h1.c
 have hel:=dG h1
 have hei:=eM h1 hq
 obtain⟨l1,l2,l3,l4,l5⟩:=hlt
 have hp1:0≤(s.bd.getD q default).pc∧(s.bd.getD q default).pc<16384:=by
  have p1:0≤(s.bd.getD q default).pc∧(s.bd.getD q default).pc<(o.core q).code.length:=g.pc q hq
  have p2:=ok.code q (by rw[←g.n];exact hq)
  omega
 obtain⟨a1,a2,a3,a4,a5,a6,a7,a8,a9,a10⟩:=h1.apart hq
 repeat' (first|((with_reducible refine aF ?_);conv=>whnf)|refine aG ?_|exact aC|with_reducible refine aD ?_ ?_|(apply aA;(·(first|exact hei _|exact bz)))|((refine aQ (oV (h1.cL dC cM) hq _ (cX o s q)) ?_ ?_);(·exact True.intro))|((refine aV (fun _=>oV (h1.cL dC cM) hq _ (cX o s q)) ?_ ?_);(·exact True.intro))|((with_reducible refine aJ (lM _ iok.kind) ?_ ?_);(·exact bj))|((with_reducible refine aN (fun _=>lM _ iok.kind) ?_ ?_);(·exact bj))|((with_reducible refine aL (lM _ iok.kind) ?_ ?_);(·exact bj))|((with_reducible refine aM (fun _=>lM _ iok.kind) ?_ ?_);(·exact bj))|refine aH ?_|((with_reducible refine aB ?_ ?_)<;>intro hc<;>(try simp only[List.length_map,ne_eq,dL] at hc)<;>try(exfalso;omega)))
 ·rw[if_pos (by assumption)]
  exact⟨Stepped.same h cM (by intro _b _hb;repeat(first|exact hfr _ _hb|exact rfl|(refine Eq.trans (bh (by first|omega|(simp only[List.length_cons,List.length_nil];omega))) ?_)))⟩
 ·rw[if_neg (fun hx=>Bool.noConfusion (hx.symm.trans (show(s.core q).halted=false by assumption))),if_pos (by assumption)]
  exact⟨Stepped.same h cM (by intro _b _hb;repeat(first|exact hfr _ _hb|exact rfl|(refine Eq.trans (bh (by first|omega|(simp only[List.length_cons,List.length_nil];omega))) ?_)))⟩
 have hdo:(nx+1+1+1+1+1+1+1+1+1)∉L.ids:=fun hm=>by have:=h.lt _ hm;omega
 have hbl:(s.core q).buf.length<1000:=by have:=g.buf q hq;have:=ok.buffer;omega
 refine aP (HN (did:={ lW with core:=q,pc:=(s.core q).pc }) h1 hq cM ⟨_,_,bn,rfl⟩ ⟨_,_,bn,rfl⟩ (by intro b hb hbc hbi;have:=h.lt b hbi;repeat(first|exact rfl|(refine Eq.trans (bh (by omega)) ?_))) ⟨cM,hdo,⟨_,bn⟩⟩ (cX o s q) (by rw[g.mem];exact iok) hbl hpl) ?_
 rintro _ H2 n2 ⟨hn3,⟨L',hM,hmv⟩,⟨fd,hdr⟩,hfr2⟩
 have hnx:nx∉L.ids:=fun hm=>by have:=h.lt _ hm;omega
 have hn4:nx+11≤n2:=Nat.le_trans cM hn3
 have e4b:bf H2 nx=some (.row 37 7 f4 [lW.av]):=(hfr2 nx cM hnx (by omega)).trans bn
 have hfr3:∀b,b<nx→b∉L.ids→bf H2 b=bf H b:=fun b hb hbo=>by
  obtain⟨o1,o2,o3,o4,o5⟩:=Lay.out hbo (q:=q) (by rw[h.lens];exact hq)
  exact(hfr2 b cM hbo (by omega)).trans (by repeat(first|exact hfr b hb|(refine Eq.trans (bh (by omega)) ?_)))
 have hmv2:∀b,b∈L'.ids→b∈L.ids∨nx+1≤b:=fun b hb=>(hmv.ids b hb).imp id (fun hh=>Nat.le_trans cM hh)
 have hmm:=hmv.m
 rw[ef] at hdr
 clear hfr2 hmv hn3
 repeat' (first|((with_reducible refine aF ?_);conv=>whnf)|refine aG ?_|exact aC|with_reducible refine aD ?_ ?_|(apply aA;(·exact bz))|refine aH ?_|((with_reducible refine aB ?_ ?_)<;>intro hc<;>(try simp only[List.length_map,ne_eq,dL] at hc)<;>try(exfalso;omega)))
 rw[if_neg (fun hx=>Bool.noConfusion (hx.symm.trans (show(s.core q).halted=false by assumption))),if_neg (fun hx=>Bool.noConfusion (hx.symm.trans (show ep o s q (cX o s q)=false by assumption)))]
 refine⟨⟨rfl,cM,⟨L',hM.fB (fun b hb=> ?_) cM,⟨hmm,fun b hb=>(hmv2 b hb).imp id (fun hh=>by omega)⟩⟩,fun b hb hbo=> ?_⟩⟩
 ·have hne:b≠nx:=fun he=>(hmv2 b hb).elim (fun hh=>hnx (he▸hh)) (fun hh=>by omega)
  repeat(first|exact rfl|(refine Eq.trans (bh (by omega)) ?_))
 ·repeat(first|exact hfr3 b hb hbo|(refine Eq.trans (bh (by omega)) ?_))
theorem G0 {o:Obj} {s:bk} {L:Lay} {H:Hp} {nx:Nat} (h:fh o s L H nx) (g:Good o s) (ok:cx o) (hpl:(s.bg.length+1) * 16≤140737488355328) (k:Int):bw Tryz.prog 28 [.pt L.m 1 0 0,i64 k] H nx (Stepped o L H nx (fE o s k)):=by
 by_cases hk:out s k
 ·exact JJ h k hk
 ·have h2:k=(k.toNat:Int):=by unfold out at hk;omega
  rw[h2]
  exact BK h g ok hpl (by unfold out at hk;omega)
end Go.Proofs.YtlonbgdonffcbaaGreatDoor
end
section
/- A core's drain. -/
namespace Go.Proofs.YtlonbgdonffcbaaGreatDoor
open Go Go.cU Go.Proofs
set_option linter.unusedSimpArgs false
set_option linter.unusedVariables false
def dP (o:Obj) (s:bk) (k:Int):bk×eA×Int:=
 if out s k then(s,lW,180) else match(s.core k.toNat).buf with
  |[]=>(s,lW,0)
  |x::t=>({ s.cn k.toNat { s.core k.toNat with buf:=t } with mem:=s.mem.set x.addr.toNat x.word },⟨8,k,x.pc,x.addr,x.word,0,false⟩,0)
theorem zk {o:Obj} {s:bk} {L:Lay} {H:Hp} {nx:Nat} (h:fh o s L H nx) (k:Int) (hk:out s k):bw Tryz.prog 29 [.pt L.m 1 0 0,i64 k] H nx (Stepped o L H nx (dP o s k)):=by
 refine aO xP rfl ?_
 have he:kU s k=180:=by rw[kU,if_pos hk]
 rw[dP,if_pos hk]
 repeat' (first|((with_reducible refine aF ?_);conv=>whnf)|refine aG ?_|exact aC|with_reducible refine aD ?_ ?_|(apply aA;(·exact bz))|((refine aQ (he▸fV (h.cL dC cM) k) ?_ ?_);(·exact True.intro))|((refine aV (fun _=>he▸fV (h.cL dC cM) k) ?_ ?_);(·exact True.intro))|refine aH ?_|((with_reducible refine aB ?_ ?_)<;>intro hc<;>(try simp only[List.length_map,ne_eq,dL] at hc)<;>try(exfalso;omega)))
 ·exact⟨Stepped.same h cM dC⟩
theorem zj {o:Obj} {s:bk} {L:Lay} {H:Hp} {nx:Nat} (h:fh o s L H nx) {q:Nat} (hq:q<s.bd.length) (hbuf:(s.core q).buf=[]):bw Tryz.prog 29 [.pt L.m 1 0 0,i64 q] H nx (Stepped o L H nx (dP o s q)):=by
 refine aO xP rfl ?_
 have hk:¬out s q:=by unfold out;omega
 have he:kU s q=0:=by rw[kU,if_neg hk]
 rw[dP,if_neg hk,Int.toNat_natCast,hbuf]
 obtain⟨dm,rm⟩:=h.m
 obtain⟨dc,rc⟩:=h.c
 obtain⟨db,rb⟩:=h.cZ q hq
 have hel:=dG h
 have hei:=eM h hq
 have hbuf2:(s.bd.getD q default).buf=[]:=hbuf
 simp only[bx.av,hbuf2] at hei rb
 obtain⟨l1,l2,l3,l4,l5⟩:=h.pE hq
 repeat' (first|((with_reducible refine aF ?_);conv=>whnf)|refine aG ?_|exact aC|with_reducible refine aD ?_ ?_|(apply aA;(·(first|exact hei _|exact bz)))|((refine aQ (he▸fV (h.cL dC cM) q) ?_ ?_);(·exact True.intro))|((refine aV (fun _=>he▸fV (h.cL dC cM) q) ?_ ?_);(·exact True.intro))|refine aH ?_|((with_reducible refine aB ?_ ?_)<;>intro hc<;>(try simp only[List.length_map,ne_eq,dL] at hc)<;>try(exfalso;omega)))
 exact⟨Stepped.same h cM dC⟩
theorem C8 {o:Obj} {s:bk} {L:Lay} {H:Hp} {nx:Nat} (h:fh o s L H nx) (g:Good o s) (ok:cx o) {q:Nat} (hq:q<s.bd.length) {x:dA} {t:List dA} (hbuf:(s.core q).buf=x::t):bw Tryz.prog 29 [.pt L.m 1 0 0,i64 q] H nx (Stepped o L H nx (dP o s q)):=by
 refine aO xP rfl ?_
 have hk:¬out s q:=by unfold out;omega
 have he:kU s q=0:=by rw[kU,if_neg hk]
 rw[dP,if_neg hk,Int.toNat_natCast,hbuf]
 obtain⟨dm,rm⟩:=h.m
 obtain⟨dc,rc⟩:=h.c
 obtain⟨dmem,rmem⟩:=h.mem
 obtain⟨dpr,rpr⟩:=h.pr
 obtain⟨db,rb⟩:=h.cZ q hq
 have hel:=dG h
 have hei:=eM h hq
 have hbuf2:(s.bd.getD q default).buf=x::t:=hbuf
 have hx:=g.addr q hq x (by rw[hbuf];simp)
 have hbl:t.length<1000:=by
  have h1:=g.buf q hq
  have h2:=ok.buffer
  rw[hbuf,List.length_cons] at h1;omega
 simp only[bx.av,hbuf2,List.length_cons,List.map_cons] at hei rb
 obtain⟨l1,l2,l3,l4,l5⟩:=h.pE hq
 obtain⟨a1,a2,a3,a4,a5,a6,a7,a8,a9,a10⟩:=h.apart hq
 repeat' (first|((with_reducible refine aF ?_);conv=>whnf)|refine aG ?_|exact aC|with_reducible refine aD ?_ ?_|(apply aA;(·(first|exact hei _|exact bz)))|((refine aQ (he▸fV (h.cL dC cM) q) ?_ ?_);(·exact True.intro))|((refine aV (fun _=>he▸fV (h.cL dC cM) q) ?_ ?_);(·exact True.intro))|refine aH ?_|((with_reducible refine aB ?_ ?_)<;>intro hc<;>(try simp only[List.length_map,ne_eq,dL] at hc)<;>try(exfalso;omega)))
 have hlen:((t.length+1:Nat):Int) - 1=(t.length:Int):=by omega
 have hlen2:(((t.length+1:Nat):Int) - 1).toNat=t.length:=by rw[hlen];simp
 refine⟨⟨rfl,cM,⟨_,h.next hq { s.core q with buf:=t } (nx+34) (s.mem.set x.addr.toNat x.word) s.bg cM (.inr ⟨cM,cM⟩) ⟨_,_,bn,(by simp only[List.length_set])⟩ ⟨_,_,bn,(by rw[hlen2];rfl)⟩ ⟨_,_,bn,(by rw[List.map_set])⟩ ⟨_,_,bn,rfl⟩ ⟨_,_,bn, ?_⟩ (by intro j hj hne hlt n1 n2 n3 n4 n5;repeat(first|exact rfl|(refine Eq.trans (bh (by omega)) ?_)))⟩,(by intro b' hb' hout;obtain⟨o1,o2,o3,o4,o5⟩:=Lay.out hout (q:=q) (by rw[h.lens];exact hq);repeat(first|exact rfl|(refine Eq.trans (bh (by omega)) ?_)))⟩⟩
 rw[hlen2]
 have e1:t.length+1 - Int.toNat 1=t.length:=by simp
 have e2:List.drop (Int.toNat 1) (x.av::List.map dA.av t)=List.map dA.av t:=rfl
 rw[e1,e2,List.take_of_length_le (by simp)]
 simp
 exact List.take_of_length_le (by simp)
theorem wm {o:Obj} {s:bk} {L:Lay} {H:Hp} {nx:Nat} (h:fh o s L H nx) (g:Good o s) (ok:cx o) (k:Int):bw Tryz.prog 29 [.pt L.m 1 0 0,i64 k] H nx (Stepped o L H nx (dP o s k)):=by
 by_cases hk:out s k
 ·exact zk h k hk
 ·have h2:k=(k.toNat:Int):=by unfold out at hk;omega
  rw[h2]
  have hq:k.toNat<s.bd.length:=by unfold out at hk;omega
  cases hb:(s.core k.toNat).buf with
  |nil=>exact zj h hq hb
  |cons x t=>exact C8 h g ok hq hb
def ck (o:Obj) (s:bk) (kind k:Int):bk×eA×Int:=if kind=1 then fE o s k else if kind=2 then dP o s k else(s,lW,182)
theorem G6 {o:Obj} {s:bk} {L:Lay} {H:Hp} {nx:Nat} (h:fh o s L H nx) (g:Good o s) (ok:cx o) (hpl:(s.bg.length+1) * 16≤140737488355328) (k:Int):bw Tryz.prog 10 [.pt L.m 1 0 0, .agg [u8 1,i64 k]] H nx (Stepped o L H nx (fE o s k)):=by
 refine aO xO rfl ?_
 repeat' (first|((with_reducible refine aF ?_);conv=>whnf)|refine aG ?_|exact aC|with_reducible refine aD ?_ ?_|(apply aA;(·exact bz))|refine aH ?_|((with_reducible refine aB ?_ ?_)<;>intro hc<;>(try simp only[List.length_map,ne_eq,dL] at hc)<;>try(exfalso;omega)))
 refine aP (G0 (h.cL dC cM) g ok hpl _) ?_
 rintro _ H2 n2 ⟨rfl,hn3,⟨L',hM,hmv⟩,hfr2⟩
 have hlt:=h.lt
 have hnx:nx+1∉L.ids:=fun hm=>by have:=h.lt _ hm;omega
 have hn4:nx+3≤n2:=Nat.le_trans cM hn3
 have e4b:bf H2 (nx+1)=some (.row 37 7 _ [lW.av]):=(hfr2 _ cM hnx).trans bn
 have hfr3:∀b,b<nx→b∉L.ids→bf H2 b=bf H b:=fun b hb hbo=>(hfr2 b cM hbo).trans (by repeat(first|exact rfl|(refine Eq.trans (bh (by omega)) ?_)))
 have hmv2:∀b,b∈L'.ids→b∈L.ids∨nx+2≤b:=fun b hb=>(hmv.ids b hb).imp id (fun hh=>Nat.le_trans cM hh)
 have hmm:=hmv.m
 clear hfr2 hmv hn3
 repeat' (first|((with_reducible refine aF ?_);conv=>whnf)|refine aG ?_|exact aC|with_reducible refine aD ?_ ?_|(apply aA;(·exact bz))|refine aH ?_|((with_reducible refine aB ?_ ?_)<;>intro hc<;>(try simp only[List.length_map,ne_eq,dL] at hc)<;>try(exfalso;omega)))
 refine⟨⟨rfl,cM,⟨L',hM.fB (fun b hb=> ?_) cM,⟨hmm,fun b hb=>(hmv2 b hb).imp id (fun hh=>by omega)⟩⟩,fun b hb hbo=> ?_⟩⟩
 ·have hne:b≠nx+1:=fun he=>(hmv2 b hb).elim (fun hh=>hnx (he▸hh)) (fun hh=>by omega)
  repeat(first|exact rfl|(refine Eq.trans (bh (by omega)) ?_))
 ·repeat(first|exact hfr3 b hb hbo|(refine Eq.trans (bh (by omega)) ?_))
theorem yE {o:Obj} {s:bk} {L:Lay} {H:Hp} {nx:Nat} (h:fh o s L H nx) (g:Good o s) (ok:cx o) (hpl:(s.bg.length+1) * 16≤140737488355328) (k:Int):bw Tryz.prog 10 [.pt L.m 1 0 0, .agg [u8 2,i64 k]] H nx (Stepped o L H nx (dP o s k)):=by
 refine aO xO rfl ?_
 repeat' (first|((with_reducible refine aF ?_);conv=>whnf)|refine aG ?_|exact aC|with_reducible refine aD ?_ ?_|(apply aA;(·exact bz))|refine aH ?_|((with_reducible refine aB ?_ ?_)<;>intro hc<;>(try simp only[List.length_map,ne_eq,dL] at hc)<;>try(exfalso;omega)))
 refine aP (wm (h.cL dC cM) g ok _) ?_
 rintro _ H2 n2 ⟨rfl,hn3,⟨L',hM,hmv⟩,hfr2⟩
 have hlt:=h.lt
 have hnx:nx+1∉L.ids:=fun hm=>by have:=h.lt _ hm;omega
 have hn4:nx+3≤n2:=Nat.le_trans cM hn3
 have e4b:bf H2 (nx+1)=some (.row 37 7 _ [lW.av]):=(hfr2 _ cM hnx).trans bn
 have hfr3:∀b,b<nx→b∉L.ids→bf H2 b=bf H b:=fun b hb hbo=>(hfr2 b cM hbo).trans (by repeat(first|exact rfl|(refine Eq.trans (bh (by omega)) ?_)))
 have hmv2:∀b,b∈L'.ids→b∈L.ids∨nx+2≤b:=fun b hb=>(hmv.ids b hb).imp id (fun hh=>Nat.le_trans cM hh)
 have hmm:=hmv.m
 clear hfr2 hmv hn3
 repeat' (first|((with_reducible refine aF ?_);conv=>whnf)|refine aG ?_|exact aC|with_reducible refine aD ?_ ?_|(apply aA;(·exact bz))|refine aH ?_|((with_reducible refine aB ?_ ?_)<;>intro hc<;>(try simp only[List.length_map,ne_eq,dL] at hc)<;>try(exfalso;omega)))
 refine⟨⟨rfl,cM,⟨L',hM.fB (fun b hb=> ?_) cM,⟨hmm,fun b hb=>(hmv2 b hb).imp id (fun hh=>by omega)⟩⟩,fun b hb hbo=> ?_⟩⟩
 ·have hne:b≠nx+1:=fun he=>(hmv2 b hb).elim (fun hh=>hnx (he▸hh)) (fun hh=>by omega)
  repeat(first|exact rfl|(refine Eq.trans (bh (by omega)) ?_))
 ·repeat(first|exact hfr3 b hb hbo|(refine Eq.trans (bh (by omega)) ?_))
theorem G5 {o:Obj} {s:bk} {L:Lay} {H:Hp} {nx:Nat} (h:fh o s L H nx) (kind k:Int) (h1:kind≠1) (h2:kind≠2):bw Tryz.prog 10 [.pt L.m 1 0 0, .agg [u8 kind,i64 k]] H nx (Stepped o L H nx (s,lW,182)):=by
 refine aO xO rfl ?_
 repeat' (first|((with_reducible refine aF ?_);conv=>whnf)|refine aG ?_|exact aC|with_reducible refine aD ?_ ?_|(apply aA;(·exact bz))|refine aH ?_|((with_reducible refine aB ?_ ?_)<;>intro hc<;>(try simp only[List.length_map,ne_eq,dL] at hc)<;>try(exfalso;omega)))
 ·exact⟨Stepped.same h cM dC⟩
theorem s7 {o:Obj} {s:bk} {L:Lay} {H:Hp} {nx:Nat} (h:fh o s L H nx) (g:Good o s) (ok:cx o) (hpl:(s.bg.length+1) * 16≤140737488355328) (kind k:Int):bw Tryz.prog 10 [.pt L.m 1 0 0, .agg [u8 kind,i64 k]] H nx (Stepped o L H nx (ck o s kind k)):=by
 unfold ck
 by_cases h1:kind=1
 ·subst h1;exact G6 h g ok hpl k
 rw[if_neg h1]
 by_cases h2:kind=2
 ·subst h2;exact yE h g ok hpl k
 rw[if_neg h2]
 exact G5 h kind k h1 h2
end Go.Proofs.YtlonbgdonffcbaaGreatDoor
/- Lists cloned. -/
namespace Go.Proofs.YtlonbgdonffcbaaGreatDoor
open Go Go.cU Go.Proofs
set_option linter.unusedSimpArgs false
set_option linter.unusedVariables false
def gI (H:Hp) (nx:Nat) (e:TypeId) (sz:Nat) (es:List AV):AV→Hp→Nat→Prop:=fun r H' n=>∃b' d',r= .sl b' es.length∧nx≤b'∧b'<n∧nx≤n∧bf H' b'=some (.row e sz d' es)∧∀b,b<nx→bf H' b=bf H b
theorem gI.of {P:Program} {f:FuncId} {args:List AV} {H:Hp} {nx:Nat} {e:TypeId} {sz:Nat} {es:List AV} (hsz:0<sz) (h:bw P f args H nx (fun r H' n=>(r= .sc (.slice none 0 0)∧es=[]∧nx≤n∧∀b,b<nx→bf H' b=bf H b)∨gI H nx e sz es r H' n)):bw P f args H nx (gI H nx e sz es):=by
 refine h.wk ?_
 rintro r H' n (⟨rfl,rfl,h1,h2⟩|h1)
 ·refine⟨_,_,_,Wk.nil (nx:=n) e sz .any hsz,n, .any,rfl,h1,Nat.lt_succ_self _,by omega,cK _ _ _,fun b hb=> ?_⟩
  rw[bh (by omega)];exact h2 b hb
 ·exact⟨r,H',n,Wk.refl _ _ _,h1⟩
theorem pd {es:List AV} (hsz:es.length * 8≤140737488355328):bw Tryz.prog 27 [.im 1 .any es] [] 0 (gI [] 0 2 1 es):=by
 refine gI.of (by omega) ?_
 refine aO ER rfl ?_
 cases hes:es with
 |nil=>
  repeat' (first|((with_reducible refine aF ?_);conv=>whnf)|refine aG ?_|exact aC|with_reducible refine aD ?_ ?_|(apply aA;(·exact bz))|refine aH ?_|((with_reducible refine aB ?_ ?_)<;>intro hc<;>(try simp only[List.length_map,ne_eq,dL] at hc)<;>try(exfalso;omega)))
  ·exact⟨.inl ⟨rfl,rfl,cM,dC⟩⟩
  ·exact⟨.inr ⟨_,_,rfl,cM,cM,cM,bn,dC⟩⟩
 |cons x t=>
  rw[hes] at hsz
  simp only[List.length_cons] at hsz
  repeat' (first|((with_reducible refine aF ?_);conv=>whnf)|refine aG ?_|exact aC|with_reducible refine aD ?_ ?_|(apply aA;(·exact bz))|refine aH ?_|((with_reducible refine aB ?_ ?_)<;>intro hc<;>(try simp only[List.length_map,ne_eq,dL] at hc)<;>try(exfalso;omega)))
  ·exact⟨.inr ⟨3,_,(by simp),cM,cM,cM,bn,dC⟩⟩
theorem fp {es:List AV} (hsz:es.length * 8≤140737488355328):bw Tryz.prog 27 [.im 1 .any es] [] 0 (fun r1 H1 _=>∃b d0,r1= .sl b es.length∧bf H1 b=some (.row 2 1 d0 es)):=
 (pd hsz).mono fun r H n ⟨b,d,h1,_,_,_,h2,_⟩=>⟨b,d,h1,h2⟩
theorem nS {es:List AV} (hsz:es.length * 8≤140737488355328) (hf:cH 0 es):Pure Tryz.prog 27 [.im 1 .any es] (fun r=>r= .im 1 .any es):=(fp hsz).tZ hf
theorem oc {es:List AV} (hsz:es.length * 24≤140737488355328):bw Tryz.prog 92 [.im 3 .any es] [] 0 (gI [] 0 125 3 es):=by
 refine gI.of (by omega) ?_
 refine aO F6 rfl ?_
 cases hes:es with
 |nil=>
  repeat' (first|((with_reducible refine aF ?_);conv=>whnf)|refine aG ?_|exact aC|with_reducible refine aD ?_ ?_|(apply aA;(·exact bz))|refine aH ?_|((with_reducible refine aB ?_ ?_)<;>intro hc<;>(try simp only[List.length_map,ne_eq,dL] at hc)<;>try(exfalso;omega)))
  ·exact⟨.inl ⟨rfl,rfl,cM,dC⟩⟩
  ·exact⟨.inr ⟨_,_,rfl,cM,cM,cM,bn,dC⟩⟩
 |cons x t=>
  rw[hes] at hsz
  simp only[List.length_cons] at hsz
  repeat' (first|((with_reducible refine aF ?_);conv=>whnf)|refine aG ?_|exact aC|with_reducible refine aD ?_ ?_|(apply aA;(·exact bz))|refine aH ?_|((with_reducible refine aB ?_ ?_)<;>intro hc<;>(try simp only[List.length_map,ne_eq,dL] at hc)<;>try(exfalso;omega)))
  ·exact⟨.inr ⟨3,_,(by simp),cM,cM,cM,bn,dC⟩⟩
theorem kJ {es:List AV} (hsz:es.length * 24≤140737488355328):bw Tryz.prog 92 [.im 3 .any es] [] 0 (fun r1 H1 _=>∃b d0,r1= .sl b es.length∧bf H1 b=some (.row 125 3 d0 es)):=
 (oc hsz).mono fun r H n ⟨b,d,h1,_,_,_,h2,_⟩=>⟨b,d,h1,h2⟩
theorem mO {es:List AV} (hsz:es.length * 24≤140737488355328) (hf:cH 0 es):Pure Tryz.prog 92 [.im 3 .any es] (fun r=>r= .im 3 .any es):=(kJ hsz).tZ hf
theorem o9 {es:List AV} (hsz:es.length * 16≤140737488355328):bw Tryz.prog 34 [.im 2 .any es] [] 0 (gI [] 0 68 2 es):=by
 refine gI.of (by omega) ?_
 refine aO EV rfl ?_
 cases hes:es with
 |nil=>
  repeat' (first|((with_reducible refine aF ?_);conv=>whnf)|refine aG ?_|exact aC|with_reducible refine aD ?_ ?_|(apply aA;(·exact bz))|refine aH ?_|((with_reducible refine aB ?_ ?_)<;>intro hc<;>(try simp only[List.length_map,ne_eq,dL] at hc)<;>try(exfalso;omega)))
  ·exact⟨.inl ⟨rfl,rfl,cM,dC⟩⟩
  ·exact⟨.inr ⟨_,_,rfl,cM,cM,cM,bn,dC⟩⟩
 |cons x t=>
  rw[hes] at hsz
  simp only[List.length_cons] at hsz
  repeat' (first|((with_reducible refine aF ?_);conv=>whnf)|refine aG ?_|exact aC|with_reducible refine aD ?_ ?_|(apply aA;(·exact bz))|refine aH ?_|((with_reducible refine aB ?_ ?_)<;>intro hc<;>(try simp only[List.length_map,ne_eq,dL] at hc)<;>try(exfalso;omega)))
  ·exact⟨.inr ⟨3,_,(by simp),cM,cM,cM,bn,dC⟩⟩
theorem kI {es:List AV} (hsz:es.length * 16≤140737488355328):bw Tryz.prog 34 [.im 2 .any es] [] 0 (fun r1 H1 _=>∃b d0,r1= .sl b es.length∧bf H1 b=some (.row 68 2 d0 es)):=
 (o9 hsz).mono fun r H n ⟨b,d,h1,_,_,_,h2,_⟩=>⟨b,d,h1,h2⟩
theorem mN {es:List AV} (hsz:es.length * 16≤140737488355328) (hf:cH 0 es):Pure Tryz.prog 34 [.im 2 .any es] (fun r=>r= .im 2 .any es):=(kI hsz).tZ hf
theorem qx {es:List AV} (hsz:es.length * 64≤140737488355328):bw Tryz.prog 26 [.im 9 .any es] [] 0 (gI [] 0 63 9 es):=by
 refine gI.of (by omega) ?_
 refine aO EP rfl ?_
 cases hes:es with
 |nil=>
  repeat' (first|((with_reducible refine aF ?_);conv=>whnf)|refine aG ?_|exact aC|with_reducible refine aD ?_ ?_|(apply aA;(·exact bz))|refine aH ?_|((with_reducible refine aB ?_ ?_)<;>intro hc<;>(try simp only[List.length_map,ne_eq,dL] at hc)<;>try(exfalso;omega)))
  ·exact⟨.inl ⟨rfl,rfl,cM,dC⟩⟩
  ·exact⟨.inr ⟨_,_,rfl,cM,cM,cM,bn,dC⟩⟩
 |cons x t=>
  rw[hes] at hsz
  simp only[List.length_cons] at hsz
  repeat' (first|((with_reducible refine aF ?_);conv=>whnf)|refine aG ?_|exact aC|with_reducible refine aD ?_ ?_|(apply aA;(·exact bz))|refine aH ?_|((with_reducible refine aB ?_ ?_)<;>intro hc<;>(try simp only[List.length_map,ne_eq,dL] at hc)<;>try(exfalso;omega)))
  ·exact⟨.inr ⟨3,_,(by simp),cM,cM,cM,bn,dC⟩⟩
theorem qy {es:List AV} (hsz:es.length * 64≤140737488355328):bw Tryz.prog 26 [.im 9 .any es] [] 0 (fun r1 H1 _=>∃b d0,r1= .sl b es.length∧bf H1 b=some (.row 63 9 d0 es)):=
 (qx hsz).mono fun r H n ⟨b,d,h1,_,_,_,h2,_⟩=>⟨b,d,h1,h2⟩
theorem o8 {es:List AV} (hsz:es.length * 64≤140737488355328) (hf:cH 0 es):Pure Tryz.prog 26 [.im 9 .any es] (fun r=>r= .im 9 .any es):=(qy hsz).tZ hf
end Go.Proofs.YtlonbgdonffcbaaGreatDoor
end
